/-
  The walks of the package root.
  The walks of the package root: Settle, and what is told where there is no disk or no suite.
  Small words of the document on sectors, walked: Same, Blank.
  The statements on roots: small functions, and the example.
  The walk of the statement RootPuts.
  Facts on the program's head that every statement's row asks, proved apart: the kernel would not hold them at once.
  What comes in, opened: bytes, ints, sectors by value, and slices of what may be opened.
-/
import Derived.Test.YtdjndeleafhglaaM3
import Derived.Laws.EntriesVeiled
import Derived.Test.YtdjndeleafhglaaM2
import Derived.Test.YtdjndeleafhglaaRows
import Derived.ProofKit
import Derived.OpenShut
import Derived.ChangeSlices
import Derived.WideShapes
import Derived.Lib.SmallJoins
namespace Go.Proofs.Ytdjndeleafhglaa
open Go.RowKit

section
variable {w : World} {d u m q : Nat} {D : DS} {U : List (List UInt8)} {S : Nat → Prop}

theorem RWrite1_c (x0 x1 x2 : Nat) (p : Int) (A : Option Addr) (n c : Nat) (b : List UInt8) (h : Duo w d u m D U S) (hF : Few D q) (hq : q ≤ 300000) (hb : BytesAt w A n b) (hA : 0 < n → ∀ g o, A = some ⟨g, o, none⟩ → ¬ S g)
    (h0 : w.cell? ⟨x0, 0, none⟩ = some (.pointer (some ⟨d, 0, none⟩))) (h1 : w.cell? ⟨x1, 0, none⟩ = some (.int .i64 p)) (h2 : w.cell? ⟨x2, 0, none⟩ = some (.slice A n c)) :
    Calls Try.prog 190 #[.pointer (some ⟨x0, 0, none⟩), .pointer (some ⟨x1, 0, none⟩), .pointer (some ⟨x2, 0, none⟩)] w fun e w' => e = .returned (.int .i64 (writeD D p b).1) ∧ Turn2 S d u m (writeD D p b).2 U w w' := by
  have hw := h.write p A n c b hF (by omega) hb hA
  have Hw := Lib.hid hw; clear hw h hF hb hA
  go_enter Try.func190, Try.ntmps190
  go_wp2_with fail
  refine Hw.out.mono ?_; rintro e w1 ⟨rfl, ht⟩
  go_wp2_with fail
  go_ret
  exact ⟨rfl, ht⟩

theorem todo0 (a b c f : Value) (w : World) : (Instr.index 260 (.agg #[.func (.func 190) #[] #[a, b, c], .func (.func 81) #[f] #[]]) (.int .i64 0)).run Try.prog w = .ok (.func (.func 190) #[] #[a, b, c]) w := by kernel_rfl
theorem todo1 (a b c f : Value) (w : World) : (Instr.index 260 (.agg #[.func (.func 190) #[] #[a, b, c], .func (.func 81) #[f] #[]]) (.int .i64 1)).run Try.prog w = .ok (.func (.func 81) #[f] #[]) w := by kernel_rfl

set_option maxRecDepth 100000 in
set_option maxHeartbeats 1000000 in
theorem RWrite_c (gen : Nat) (A : Option Addr) (n c : Nat) (b : List UInt8) (h : Duo w d u m D U S) (hF : Few D q) (hq : q ≤ 300000) (hg : gen < 18446744073709551616) (hb : BytesAt w A n b) (hA : 0 < n → ∀ g o, A = some ⟨g, o, none⟩ → ¬ S g) :
    Calls Try.prog 159 #[.pointer (some ⟨d, 0, none⟩), .int .u64 (gen : Int), .slice A n c] w fun e w' => e = .returned (.int .i64 (stampD D (rplace gen : Int) b).1) ∧ Turn2 S d u m (stampD D (rplace gen : Int) b).2 U w w' := by
  have hr := fun W => Root_any (gen : Int) W (by omega) (by omega)
  rw [show (gen : Int) % 2 = (rplace gen : Int) by unfold rplace; omega] at hr
  have Hr := Lib.hid hr; clear hr
  have Hd := Lib.hid h; clear h
  have Hb := Lib.hid hb; clear hb
  have HA := Lib.hid hA; clear hA
  have hlt := Hd.out.lt
  have Hlt := Lib.hid hlt; clear hlt
  have i0 := todo0
  have i1 := todo1
  generalize rplace gen = p at Hr ⊢
  have hw := fun W (hB : Below w.heap.size w W) => RWrite1_c (w := W) w.heap.size (w.heap.size + 1 + 1) (w.heap.size + 1) (p : Int) A n c b (Hd.out.below hB) hF hq (Hb.out.below hB) HA.out
  have hF2 := hF.write (p : Int) b
  unfold stampD
  generalize writeD D (p : Int) b = R at hw hF2 ⊢
  have Hw := Lib.hid hw; clear hw
  go_enter Try.func159, Try.ntmps159
  go_wp2_with fail
  go_step3
  go_wp2_with fail
  refine (Hr.out _).mono ?_; rintro e w1 ⟨rfl, rfl⟩
  go_wp2_with fail
  go_step3
  go_wp2_with fail
  have hB : Below w.heap.size w ((((w.alloc (.cells #[.pointer (some ⟨d, 0, none⟩)] 36)).alloc (.cells #[.slice A n c] 41)).alloc (.cells #[.int .i64 (p : Int)] 3)).alloc (.cells #[.func (.func 190) #[] #[.pointer (some ⟨w.heap.size, 0, none⟩), .pointer (some ⟨w.heap.size + 1 + 1, 0, none⟩), .pointer (some ⟨w.heap.size + 1, 0, none⟩)], .func (.func 81) #[.pointer (some ⟨d, 0, none⟩)] #[]] 260)) := by ((repeat (first | (with_reducible exact Bnil _) | (with_reducible assumption) | (with_reducible refine Bset ?_ ?_ _) | (with_reducible refine Bnew ?_ _) | (with_reducible refine Bdrew ?_) | (with_reducible refine Bthen ?_ (by assumption)))); all_goals (simp; try omega))
  have c0 : ((((w.alloc (.cells #[.pointer (some ⟨d, 0, none⟩)] 36)).alloc (.cells #[.slice A n c] 41)).alloc (.cells #[.int .i64 (p : Int)] 3)).alloc (.cells #[.func (.func 190) #[] #[.pointer (some ⟨w.heap.size, 0, none⟩), .pointer (some ⟨w.heap.size + 1 + 1, 0, none⟩), .pointer (some ⟨w.heap.size + 1, 0, none⟩)], .func (.func 81) #[.pointer (some ⟨d, 0, none⟩)] #[]] 260)).cell? ⟨w.heap.size, 0, none⟩ = some (.pointer (some ⟨d, 0, none⟩)) := by go_simp
  have c1 : ((((w.alloc (.cells #[.pointer (some ⟨d, 0, none⟩)] 36)).alloc (.cells #[.slice A n c] 41)).alloc (.cells #[.int .i64 (p : Int)] 3)).alloc (.cells #[.func (.func 190) #[] #[.pointer (some ⟨w.heap.size, 0, none⟩), .pointer (some ⟨w.heap.size + 1 + 1, 0, none⟩), .pointer (some ⟨w.heap.size + 1, 0, none⟩)], .func (.func 81) #[.pointer (some ⟨d, 0, none⟩)] #[]] 260)).cell? ⟨w.heap.size + 1 + 1, 0, none⟩ = some (.int .i64 (p : Int)) := by go_simp
  have c2 : ((((w.alloc (.cells #[.pointer (some ⟨d, 0, none⟩)] 36)).alloc (.cells #[.slice A n c] 41)).alloc (.cells #[.int .i64 (p : Int)] 3)).alloc (.cells #[.func (.func 190) #[] #[.pointer (some ⟨w.heap.size, 0, none⟩), .pointer (some ⟨w.heap.size + 1 + 1, 0, none⟩), .pointer (some ⟨w.heap.size + 1, 0, none⟩)], .func (.func 81) #[.pointer (some ⟨d, 0, none⟩)] #[]] 260)).cell? ⟨w.heap.size + 1, 0, none⟩ = some (.slice A n c) := by go_simp
  generalize (((w.alloc (.cells #[.pointer (some ⟨d, 0, none⟩)] 36)).alloc (.cells #[.slice A n c] 41)).alloc (.cells #[.int .i64 (p : Int)] 3)).alloc (.cells #[.func (.func 190) #[] #[.pointer (some ⟨w.heap.size, 0, none⟩), .pointer (some ⟨w.heap.size + 1 + 1, 0, none⟩), .pointer (some ⟨w.heap.size + 1, 0, none⟩)], .func (.func 81) #[.pointer (some ⟨d, 0, none⟩)] #[]] 260) = W at hB c0 c1 c2 ⊢
  have Hw1 := Lib.hid (Hw.out W hB c0 c1 c2); clear c0 c1 c2
  refine wp_loop_rounds 3 ?_
  rw [rounds_succ]
  go_wp2_with fail
  refine Hw1.out.mono ?_; rintro e w2 ⟨rfl, ht⟩
  obtain ⟨rf, D2⟩ := R
  by_cases hz : rf = 0
  · subst hz
    obtain ⟨S2, hd2, hf2, hS2⟩ := ht
    have hfl := hd2.flush hF2 (by omega)
    obtain ⟨⟨rf2, D3⟩, hR2⟩ : ∃ R2, flushD D2 = R2 := ⟨_, rfl⟩
    rw [hR2] at hfl
    have HR2 := Lib.hid hR2; clear hR2
    have Hfl := Lib.hid hfl; clear hfl
    go_wp2_with fail
    rw [rounds_succ]
    go_wp2_with fail
    refine Hfl.out.mono ?_; rintro e w3 ⟨rfl, ht3⟩
    have ht4 := (Turn2.comp hf2 hS2 ht3).after hB
    by_cases hz2 : rf2 = 0
    · subst hz2
      go_wp2_with fail
      rw [rounds_succ]
      go_wp2_with fail
      rw [Exit.noGoto_ret]
      go_ret
      exact ⟨by simp [HR2.out], by simpa [HR2.out] using ht4⟩
    · go_wp2_with fail
      rw [Exit.noGoto_ret]
      go_ret
      exact ⟨by simp [HR2.out], by simpa [HR2.out] using ht4⟩
  · go_wp2_with fail
    rw [Exit.noGoto_ret]
    go_ret
    exact ⟨by simp [hz], by simpa [hz] using ht.after hB⟩

set_option maxRecDepth 100000 in
set_option maxHeartbeats 1000000 in
theorem RPut_c (gen : Nat) (A : Option Addr) (c : Nat) (key : List UInt8) (h : Duo w d u m D U S) (hF : Few D q) (hq : q ≤ 300000) (hU : U.length ≤ 300000) (hg : gen < 18446744073709551616) (hb : BytesAt w A key.length key) :
    Calls Try.prog 85 #[.pointer (some ⟨d, 0, none⟩), .pointer (some ⟨u, 0, none⟩), .int .u64 (gen : Int), .slice A key.length c] w fun e w' => e = .returned (.int .i64 (rputD D U gen key).1) ∧ Turn2 S d u m (rputD D U gen key).2.1 (rputD D U gen key).2.2 w w' := by
  unfold rputD
  by_cases hk : key.length = 32
  · rw [if_neg (by simp [hk])]
    have hr := fun W => Root_any (gen : Int) W (by omega) (by omega)
    rw [show (gen : Int) % 2 = (rplace gen : Int) by unfold rplace; omega] at hr
    have henc := h.encode (rplace gen : Int) (rootS gen key) A c (rootS_right gen hk) hb (by omega)
    have hlt := h.lt
    have hlen := encU_length U (rplace gen : Int) (rootS gen key)
    unfold secV at henc
    simp only [rootS] at henc
    rw [hk] at henc ⊢
    simp only [rootS] at henc hlen ⊢
    generalize encU U (rplace gen : Int) ⟨1, 0, 0, gen, key⟩ = R at henc hlen ⊢
    obtain ⟨b, V⟩ := R
    simp only at henc hlen ⊢
    have hwr := fun (W : World) (B : Option Addr) (cb : Nat) (h2 : Duo W d u m D V S) (hb2 : BytesAt W B 512 b) (hB : 0 < 512 → ∀ g o, B = some ⟨g, o, none⟩ → ¬ S g) => RWrite_c gen B 512 cb b h2 hF hq hg hb2 hB
    generalize stampD D (rplace gen : Int) b = R2 at hwr ⊢
    have Hr := Lib.hid hr; clear hr
    have Henc := Lib.hid henc; clear henc
    have Hwr := Lib.hid hwr; clear hwr
    have Hlt := Lib.hid hlt; clear hlt
    clear h hF hb
    go_enter Try.func85, Try.ntmps85
    go_wp2_with fail
    refine (Hr.out _).mono ?_; rintro e w1 ⟨rfl, rfl⟩
    go_wp2_with fail
    refine Henc.out.mono ?_; rintro e w1 ⟨A1, c1, rfl, hown, hd1, hf1⟩
    have hw1 := Hwr.out w1 A1 c1 hd1 (BytesAt.own hown) (fun _ g o e hs => by
      have h1 := Hlt.out g hs
      have h2 := (hown.lt g (by rw [e]; rfl)).1
      omega)
    have Hw1 := Lib.hid hw1; clear hw1 hown
    go_wp2_with fail
    refine Hw1.out.mono ?_; rintro e w2 ⟨rfl, ht⟩
    go_wp2_with fail
    go_ret
    exact ⟨rfl, Turn2.comp hf1 (fun _ h => .inl h) ht⟩
  · rw [if_pos (by simpa using hk)]
    have hk' : ¬ (key.length : Int) = 32 := by omega
    go_enter Try.func85, Try.ntmps85
    go_wp2_with fail
    go_ret
    exact ⟨rfl, Turn2.still h⟩

set_option maxRecDepth 100000 in
set_option maxHeartbeats 1000000 in
theorem RErase_c (gen : Nat) (h : Duo w d u m D U S) (hF : Few D q) (hq : q ≤ 300000) (hg : gen < 18446744073709551616) :
    Calls Try.prog 87 #[.pointer (some ⟨d, 0, none⟩), .int .u64 (gen : Int)] w fun e w' => e = .returned (.int .i64 (reraseD D gen).1) ∧ Turn2 S d u m (reraseD D gen).2 U w w' := by
  have hlt := h.lt
  have Hlt := Lib.hid hlt; clear hlt
  have Hd := Lib.hid h; clear h
  go_enter Try.func87, Try.ntmps87
  go_wp2_with fail
  refine (Blank_at _).mono ?_; rintro e w1 ⟨rfl, hblk, hb1⟩
  have hb := BytesAt.of_block 512 blankS_len hblk
  have Hw := Lib.hid (RWrite_c gen _ 512 512 blankS (Hd.out.below hb1) hF hq hg hb (fun _ g o e hs => by cases e; have := Hlt.out _ hs; omega))
  clear hblk hb
  go_wp2_with fail
  refine Hw.out.mono ?_; rintro e w2 ⟨rfl, ht⟩
  go_wp2_with fail
  go_ret
  exact ⟨rfl, ht.after hb1⟩

set_option maxRecDepth 100000 in
set_option maxHeartbeats 1000000 in
theorem RBlank_c (gen : Nat) (h : Duo w d u m D U S) (hg : gen < 18446744073709551616) :
    Calls Try.prog 88 #[.pointer (some ⟨d, 0, none⟩), .int .u64 (gen : Int)] w fun e w' => e = .returned (.tuple #[.bool (rblankD D gen).1, .int .i64 (rblankD D gen).2]) ∧ Below w.heap.size w w' := by
  have hr := fun W => Root_any (gen : Int) W (by omega) (by omega)
  rw [show (gen : Int) % 2 = (rplace gen : Int) by unfold rplace; omega] at hr
  have hrd := h.read (rplace gen : Int)
  unfold rblankD
  generalize readX D (rplace gen : Int) = R at hrd ⊢
  obtain ⟨b, f⟩ := R
  simp only at hrd ⊢
  have Hr := Lib.hid hr; clear hr
  have Hrd := Lib.hid hrd; clear hrd h
  by_cases hf : f = 0
  · subst hf
    go_enter Try.func88, Try.ntmps88
    go_wp2_with fail
    refine (Hr.out _).mono ?_; rintro e w1 ⟨rfl, rfl⟩
    go_wp2_with fail
    refine Hrd.out.mono ?_; rintro e w1 ⟨A1, c1, rfl, hb, hc, hl, hb1⟩
    have Hi := Lib.hid (IsBlank_any A1 _ c1 _ w1 hb hc (by omega))
    clear hb hc hl
    go_wp2_with fail
    refine Hi.out.mono ?_; rintro e w2 ⟨rfl, hb2⟩
    go_wp2_with fail
    go_ret2
    exact ⟨by simp, Bthen hb1 hb2⟩
  · go_enter Try.func88, Try.ntmps88
    go_wp2_with fail
    refine (Hr.out _).mono ?_; rintro e w1 ⟨rfl, rfl⟩
    go_wp2_with fail
    refine Hrd.out.mono ?_; rintro e w1 ⟨A1, c1, rfl, hb, hc, hl, hb1⟩
    clear hb hc hl
    go_wp2_with fail
    go_ret2
    exact ⟨by simp [hf], hb1⟩

/-- Is it the root of a gen? -/
theorem RMine_any (x : Sec) (A : Option Addr) (c : Nat) (f : Int) (gen : Nat) (xf xs xg : Nat) (h0 : w.cell? ⟨xf, 0, none⟩ = some (.int .i64 f)) (h1 : w.heap[xs]? = some (.cells #[.int .i64 x.kind, .int .u64 (x.life : Int), .int .i64 x.seq, .int .u64 (x.gen : Int), .slice A x.body.length c] 54 (0, 0)))
    (h2 : w.cell? ⟨xg, 0, none⟩ = some (.int .u64 (gen : Int))) :
    Calls Try.prog 160 #[.pointer (some ⟨xf, 0, none⟩), .pointer (some ⟨xs, 0, none⟩), .pointer (some ⟨xg, 0, none⟩)] w fun e w' => e = .returned (.bool (decide (f = 0 ∧ rootIs gen x))) ∧ w = w' := by
  obtain ⟨s0, s1, s2, s3, s4, sf⟩ := cells5 h1
  unfold rootIs
  by_cases e0 : f = 0
  case neg => 
    go_enter Try.func160, Try.ntmps160
    go_wp2_with fail
    go_ret
    exact ⟨ret_bool (by simp [e0]), rfl⟩
  by_cases e1 : x.kind = 1
  case neg => 
    go_enter Try.func160, Try.ntmps160
    go_wp2_with fail
    go_ret
    exact ⟨ret_bool (by simp [e1]), rfl⟩
  by_cases e2 : x.life = 0
  case neg => 
    have e2' : ¬ ((x.life : Int) = 0) := by omega
    go_enter Try.func160, Try.ntmps160
    go_wp2_with fail
    go_ret
    exact ⟨ret_bool (by simp [e2]), rfl⟩
  by_cases e3 : x.seq = 0
  case neg => 
    go_enter Try.func160, Try.ntmps160
    go_wp2_with fail
    go_ret
    exact ⟨ret_bool (by simp [e3]), rfl⟩
  by_cases e4 : x.gen = gen
  case neg => 
    have e4' : ¬ ((x.gen : Int) = (gen : Int)) := by omega
    go_enter Try.func160, Try.ntmps160
    go_wp2_with fail
    go_ret
    exact ⟨ret_bool (by simp [e4]), rfl⟩
  by_cases e5 : x.body.length = 32
  case neg => 
    have e5' : ¬ ((x.body.length : Int) = 32) := by omega
    go_enter Try.func160, Try.ntmps160
    go_wp2_with fail
    go_ret
    exact ⟨ret_bool (by simp [e5]; omega), rfl⟩
  go_enter Try.func160, Try.ntmps160
  go_wp2_with fail
  go_ret
  exact ⟨ret_bool (by simp [e0, e1, e2, e3, e4, e5]), rfl⟩

theorem rkey_len (K : List (List UInt8)) (gen : Nat) (b : List UInt8) : (rkeyB K gen b).1.length = 32 ∨ rkeyB K gen b = ([], 11) := by
  unfold rkeyB
  split
  · rename_i h
    exact .inl h.2.2.2.2.2
  · exact .inr rfl

set_option maxRecDepth 100000 in
set_option maxHeartbeats 1000000 in
theorem RGet_c (gen : Nat) (h : Duo w d u m D U S) (hg : gen < 18446744073709551616) :
    Calls Try.prog 86 #[.pointer (some ⟨d, 0, none⟩), .pointer (some ⟨u, 0, none⟩), .int .u64 (gen : Int)] w fun e w' => ∃ A c, e = .returned (.tuple #[.slice A (rgetD D U gen).1.length c, .int .i64 (rgetD D U gen).2]) ∧
      w'.ownsRow w.heap.size 5 1 (.slice A (rgetD D U gen).1.length c) (rgetD D U gen).1.length (bytesV (rgetD D U gen).1) ∧ Below w.heap.size w w' := by
  have hr := fun W => Root_any (gen : Int) W (by omega) (by omega)
  rw [show (gen : Int) % 2 = (rplace gen : Int) by unfold rplace; omega] at hr
  have hrd := fun W (hW : Below w.heap.size w W) => (h.below hW).read (rplace gen : Int)
  have hde := fun W (hW : Below w.heap.size w W) => (h.below hW).decode (rplace gen : Int)
  unfold rgetD
  generalize readX D (rplace gen : Int) = R at hrd ⊢
  obtain ⟨b, f⟩ := R
  simp only at hrd ⊢
  unfold rkeyB
  have Hr := Lib.hid hr; clear hr
  have Hrd := Lib.hid hrd; clear hrd h
  have Hde := Lib.hid hde; clear hde
  by_cases hf : f = 0
  · subst hf
    rw [if_neg (by simp)]
    generalize hR : decU U (rplace gen : Int) b = R
    have Hde' : Hid (∀ (W : World), Below w.heap.size w W → ∀ (A : Option Addr) (n c : Nat), BytesAt W A n b → n ≤ c → Calls Try.prog 58 #[.pointer (some ⟨u, 0, none⟩), .int .i64 (rplace gen : Int), .slice A n c] W fun e w' => DecPost R W e w') := Lib.hid fun W hW A n c hb hc => by
      rw [← hR]; exact Hde.out W hW A n c b hb hc
    clear Hde hR
    obtain ⟨f2, x⟩ := R
    simp only
    by_cases hm : f2 = 0 ∧ rootIs gen x
    · rw [if_pos hm]
      have hmd : decide (f2 = 0 ∧ rootIs gen x) = true := by simpa using hm
      have Hmd := Lib.hid hmd; clear hmd hm
      simp only
      go_enter Try.func86, Try.ntmps86
      go_wp2_with fail
      refine (Hr.out _).mono ?_; rintro e w1 ⟨rfl, rfl⟩
      go_wp2_with fail
      have hB0 : Below w.heap.size w (w.alloc (.cells #[.int .u64 (gen : Int)] 28)) := Bbox _ _
      have hG0 := heap_alloc_new w (.cells #[.int .u64 (gen : Int)] 28)
      generalize w.alloc (.cells #[.int .u64 (gen : Int)] 28) = W0 at hB0 hG0 ⊢
      refine (Hrd.out W0 hB0).mono ?_; rintro e w1 ⟨A1, c1, rfl, hb, hc, hl, hb1⟩
      have hB1 := Bthen hB0 hb1
      have hG1 := (hb1.block _ (blk_lt hG0)).trans hG0
      have Hd1 := Lib.hid (Hde'.out w1 hB1 A1 _ c1 hb hc)
      clear hb hc hl hG0
      go_wp2_with fail
      refine Hd1.out.mono ?_; rintro e w2 ⟨A2, c2, rfl, hown, hb2⟩
      have hB2 := Bthen hB1 hb2
      have hG2 := (hb2.block _ (blk_lt hG1)).trans hG1
      have Hown := Lib.hid hown; clear hown
      unfold secV
      simp only
      go_wp2_with fail
      have hB3 : Below w.heap.size w ((w2.alloc (.cells #[.int .i64 x.kind, .int .u64 (x.life : Int), .int .i64 x.seq, .int .u64 (x.gen : Int), .slice A2 x.body.length c2] 54)).alloc (.cells #[.int .i64 f2] 37)) := Bnew (Bnew hB2 _) _
      have hb3 : Below w2.heap.size w2 ((w2.alloc (.cells #[.int .i64 x.kind, .int .u64 (x.life : Int), .int .i64 x.seq, .int .u64 (x.gen : Int), .slice A2 x.body.length c2] 54)).alloc (.cells #[.int .i64 f2] 37)) := Bnew (Bbox _ _) _
      have hX : ((w2.alloc (.cells #[.int .i64 x.kind, .int .u64 (x.life : Int), .int .i64 x.seq, .int .u64 (x.gen : Int), .slice A2 x.body.length c2] 54)).alloc (.cells #[.int .i64 f2] 37)).heap[w2.heap.size]? = some (.cells #[.int .i64 x.kind, .int .u64 (x.life : Int), .int .i64 x.seq, .int .u64 (x.gen : Int), .slice A2 x.body.length c2] 54 (0, 0)) := by
        rw [Below.heap_alloc _ _ _ (by simp)]; exact heap_alloc_new _ _
      have hY : ((w2.alloc (.cells #[.int .i64 x.kind, .int .u64 (x.life : Int), .int .i64 x.seq, .int .u64 (x.gen : Int), .slice A2 x.body.length c2] 54)).alloc (.cells #[.int .i64 f2] 37)).cell? ⟨w2.heap.size + 1, 0, none⟩ = some (.int .i64 f2) := by go_simp
      generalize (w2.alloc (.cells #[.int .i64 x.kind, .int .u64 (x.life : Int), .int .i64 x.seq, .int .u64 (x.gen : Int), .slice A2 x.body.length c2] 54)).alloc (.cells #[.int .i64 f2] 37) = W3 at hB3 hb3 hX hY ⊢
      have hG3 := (hb3.block _ (blk_lt hG2)).trans hG2
      have hm3 := RMine_any x A2 c2 f2 gen _ _ _ hY hX (cell_of_one hG3).1
      rw [Hmd.out] at hm3
      have Hm3 := Lib.hid hm3; clear hm3
      refine Hm3.out.mono ?_; rintro e w4 ⟨rfl, rfl⟩
      obtain ⟨x0, x1, x2, x3, x4, xf⟩ := cells5 hX
      go_wp2_with fail
      go_ret2
      exact ⟨A2, c2, rfl, own_below (own_mono Hown.out hB1.size) hb3, hB3⟩
    · rw [if_neg hm]
      have hmd : decide (f2 = 0 ∧ rootIs gen x) = false := by simpa using hm
      have Hmd := Lib.hid hmd; clear hmd hm
      go_enter Try.func86, Try.ntmps86
      go_wp2_with fail
      refine (Hr.out _).mono ?_; rintro e w1 ⟨rfl, rfl⟩
      go_wp2_with fail
      have hB0 : Below w.heap.size w (w.alloc (.cells #[.int .u64 (gen : Int)] 28)) := Bbox _ _
      have hG0 := heap_alloc_new w (.cells #[.int .u64 (gen : Int)] 28)
      generalize w.alloc (.cells #[.int .u64 (gen : Int)] 28) = W0 at hB0 hG0 ⊢
      refine (Hrd.out W0 hB0).mono ?_; rintro e w1 ⟨A1, c1, rfl, hb, hc, hl, hb1⟩
      have hB1 := Bthen hB0 hb1
      have hG1 := (hb1.block _ (blk_lt hG0)).trans hG0
      have Hd1 := Lib.hid (Hde'.out w1 hB1 A1 _ c1 hb hc)
      clear hb hc hl hG0
      go_wp2_with fail
      refine Hd1.out.mono ?_; rintro e w2 ⟨A2, c2, rfl, hown, hb2⟩
      have hB2 := Bthen hB1 hb2
      have hG2 := (hb2.block _ (blk_lt hG1)).trans hG1
      have Hown := Lib.hid hown; clear hown
      unfold secV
      simp only
      go_wp2_with fail
      have hB3 : Below w.heap.size w ((w2.alloc (.cells #[.int .i64 x.kind, .int .u64 (x.life : Int), .int .i64 x.seq, .int .u64 (x.gen : Int), .slice A2 x.body.length c2] 54)).alloc (.cells #[.int .i64 f2] 37)) := Bnew (Bnew hB2 _) _
      have hb3 : Below w2.heap.size w2 ((w2.alloc (.cells #[.int .i64 x.kind, .int .u64 (x.life : Int), .int .i64 x.seq, .int .u64 (x.gen : Int), .slice A2 x.body.length c2] 54)).alloc (.cells #[.int .i64 f2] 37)) := Bnew (Bbox _ _) _
      have hX : ((w2.alloc (.cells #[.int .i64 x.kind, .int .u64 (x.life : Int), .int .i64 x.seq, .int .u64 (x.gen : Int), .slice A2 x.body.length c2] 54)).alloc (.cells #[.int .i64 f2] 37)).heap[w2.heap.size]? = some (.cells #[.int .i64 x.kind, .int .u64 (x.life : Int), .int .i64 x.seq, .int .u64 (x.gen : Int), .slice A2 x.body.length c2] 54 (0, 0)) := by
        rw [Below.heap_alloc _ _ _ (by simp)]; exact heap_alloc_new _ _
      have hY : ((w2.alloc (.cells #[.int .i64 x.kind, .int .u64 (x.life : Int), .int .i64 x.seq, .int .u64 (x.gen : Int), .slice A2 x.body.length c2] 54)).alloc (.cells #[.int .i64 f2] 37)).cell? ⟨w2.heap.size + 1, 0, none⟩ = some (.int .i64 f2) := by go_simp
      generalize (w2.alloc (.cells #[.int .i64 x.kind, .int .u64 (x.life : Int), .int .i64 x.seq, .int .u64 (x.gen : Int), .slice A2 x.body.length c2] 54)).alloc (.cells #[.int .i64 f2] 37) = W3 at hB3 hb3 hX hY ⊢
      have hG3 := (hb3.block _ (blk_lt hG2)).trans hG2
      have hm3 := RMine_any x A2 c2 f2 gen _ _ _ hY hX (cell_of_one hG3).1
      rw [Hmd.out] at hm3
      have Hm3 := Lib.hid hm3; clear hm3
      refine Hm3.out.mono ?_; rintro e w4 ⟨rfl, rfl⟩
      obtain ⟨x0, x1, x2, x3, x4, xf⟩ := cells5 hX
      go_wp2_with fail
      go_ret2
      exact ⟨none, 0, rfl, World.ownsRow_nil _ _ _ _, hB3⟩
  · rw [if_pos hf]
    go_enter Try.func86, Try.ntmps86
    go_wp2_with fail
    refine (Hr.out _).mono ?_; rintro e w1 ⟨rfl, rfl⟩
    go_wp2_with fail
    refine (Hrd.out _ (Bbox _ _)).mono ?_; rintro e w1 ⟨A1, c1, rfl, hb, hc, hl, hb1⟩
    clear hb hc hl
    go_wp2_with fail
    go_ret2
    exact ⟨none, 0, rfl, World.ownsRow_nil _ _ _ _, Bthen (Bbox _ _) hb1⟩

end
end Go.Proofs.Ytdjndeleafhglaa
namespace Go.Proofs.Ytdjndeleafhglaa
open Go.RowKit

theorem BytesAt.frame {T : Nat → Prop} {w w' : World} {A : Option Addr} {n : Nat} {l : List UInt8} (h : BytesAt w A n l) (hf : Frame T w w') (hT : 0 < n → ∀ g o, A = some ⟨g, o, none⟩ → ¬ T g) : BytesAt w' A n l :=
  ⟨h.len, fun hn => by
    obtain ⟨g, o, hA, hr⟩ := h.at_ hn
    exact ⟨g, o, hA, rangeAt_keep hr (hf.block g (rangeAt_lt hr (by rw [bytesV_length, h.len]; exact hn)) (hT hn g o hA))⟩⟩

section
variable {w : World} {d u m q : Nat} {D : DS} {U : List (List UInt8)} {S : Nat → Prop}

theorem xor_u64 (a b : Nat) (ha : a < 18446744073709551616) (hb : b < 18446744073709551616) : bits .xor .u64 (a : Int) (b : Int) = ((a ^^^ b : Nat) : Int) := by
  have h : a ^^^ b < 18446744073709551616 := Nat.xor_lt_two_pow (n := 64) (by omega) (by omega)
  change IntKind.u64.wrap ((BitVec.ofInt 64 (a : Int) ^^^ BitVec.ofInt 64 (b : Int)).toNat : Int) = _
  rw [BitVec.toNat_xor, BitVec.ofInt_natCast, BitVec.ofInt_natCast, BitVec.toNat_ofNat, BitVec.toNat_ofNat, Nat.mod_eq_of_lt (show a < 2 ^ 64 by omega), Nat.mod_eq_of_lt (show b < 2 ^ 64 by omega)]
  exact wrap_u64_of _ h

set_option maxRecDepth 100000 in
set_option maxHeartbeats 1000000 in
theorem RSettle_c (gen : Nat) (h : Duo w d u m D U S) (hF : Few D q) (hq : q ≤ 300000) (hg : gen < 18446744073709551616) :
    Calls Try.prog 91 #[.pointer (some ⟨d, 0, none⟩), .pointer (some ⟨u, 0, none⟩), .int .u64 (gen : Int)] w fun e w' => ∃ A c, e = .returned (.tuple #[.slice A (rsetD D U gen).1.1.length c, .int .i64 (rsetD D U gen).1.2]) ∧
      BytesAt w' A (rsetD D U gen).1.1.length (rsetD D U gen).1.1 ∧ (rsetD D U gen).1.1.length ≤ c ∧ Turn2 S d u m (rsetD D U gen).2 U w w' := by
  have hx : bits .xor .u64 (gen : Int) 1 = ((gen ^^^ 1 : Nat) : Int) := xor_u64 gen 1 hg (by decide)
  have hog := xor_lt64 hg
  have hget := RGet_c gen h hg
  have hlt := h.lt
  have hbl := fun W (hW : Below w.heap.size w W) => RBlank_c (gen ^^^ 1) (h.below hW) hog
  have her := fun W (hW : Below w.heap.size w W) => RErase_c (gen ^^^ 1) (h.below hW) hF hq hog
  have Hd := Lib.hid h; clear h
  have Hx := Lib.hid hx; clear hx
  unfold rsetD
  generalize gen ^^^ 1 = og at Hx hog hbl her ⊢
  generalize rgetD D U gen = G at hget ⊢
  generalize rblankD D og = B at hbl ⊢
  generalize reraseD D og = E at her ⊢
  obtain ⟨k, f⟩ := G
  obtain ⟨bk, fb⟩ := B
  obtain ⟨fe, D2⟩ := E
  have Hget := Lib.hid hget; clear hget
  have Hbl := Lib.hid hbl; clear hbl
  have Her := Lib.hid her; clear her
  have Hlt := Lib.hid hlt; clear hlt
  by_cases hf : f = 0
  case neg =>
    rw [if_pos (show (k, f).2 ≠ 0 from hf)]
    simp only at Hget ⊢
    go_enter Try.func91, Try.ntmps91
    go_wp2_with fail
    refine Hget.out.mono ?_; rintro e w1 ⟨A1, c1, rfl, hown, hb1⟩
    have Hown := Lib.hid hown; clear hown
    go_wp2_with fail
    go_ret2
    exact ⟨none, 0, rfl, BytesAt.nil _, Nat.le_refl _, Turn2.of_below Hd.out hb1⟩
  subst hf
  rw [if_neg (show ¬ (k, (0 : Int)).2 ≠ 0 by simp)]
  by_cases hfb : fb = 0
  case neg =>
    rw [if_neg (show ¬ (bk, fb).2 = 0 from hfb)]
    simp only at Hget Hbl ⊢
    go_enter Try.func91, Try.ntmps91
    go_wp2_with fail
    refine Hget.out.mono ?_; rintro e w1 ⟨A1, c1, rfl, hown, hb1⟩
    have Hown := Lib.hid hown; clear hown
    go_wp2_with fail
    rw [Hx.out]
    refine (Hbl.out w1 hb1).mono ?_; rintro e w2 ⟨rfl, hb2⟩
    go_wp2_with fail
    go_ret2
    exact ⟨none, 0, rfl, BytesAt.nil _, Nat.le_refl _, Turn2.of_below Hd.out (Bthen hb1 hb2)⟩
  subst hfb
  rw [if_pos (show (bk, (0 : Int)).2 = 0 from rfl)]
  cases bk with
  | true =>
    rw [if_pos (show ((true, (0 : Int)) : Bool × Int).1 = true from rfl)]
    simp only at Hget Hbl ⊢
    go_enter Try.func91, Try.ntmps91
    go_wp2_with fail
    refine Hget.out.mono ?_; rintro e w1 ⟨A1, c1, rfl, hown, hb1⟩
    have Hown := Lib.hid hown; clear hown
    go_wp2_with fail
    rw [Hx.out]
    refine (Hbl.out w1 hb1).mono ?_; rintro e w2 ⟨rfl, hb2⟩
    go_wp2_with fail
    go_ret2
    exact ⟨A1, c1, rfl, (BytesAt.own Hown.out).below hb2, own_cap Hown.out, Turn2.of_below Hd.out (Bthen hb1 hb2)⟩
  | false =>
    rw [if_neg (show ¬ ((false, (0 : Int)) : Bool × Int).1 = true by simp)]
    by_cases hfe : fe = 0
    · subst hfe
      rw [if_neg (show ¬ ((0 : Int), D2).1 ≠ 0 by simp)]
      simp only at Hget Hbl Her ⊢
      go_enter Try.func91, Try.ntmps91
      go_wp2_with fail
      refine Hget.out.mono ?_; rintro e w1 ⟨A1, c1, rfl, hown, hb1⟩
      have Hown := Lib.hid hown; clear hown
      go_wp2_with fail
      rw [Hx.out]
      refine (Hbl.out w1 hb1).mono ?_; rintro e w2 ⟨rfl, hb2⟩
      go_wp2_with fail
      refine (Her.out w2 (Bthen hb1 hb2)).mono ?_; rintro e w3 ⟨rfl, ht⟩
      have Ht := Lib.hid ht; clear ht
      go_wp2_with fail
      go_ret2
      refine ⟨A1, c1, rfl, ?_, own_cap Hown.out, Ht.out.after (Bthen hb1 hb2)⟩
      obtain ⟨S2, h1, h2, h3⟩ := Ht.out
      refine ((BytesAt.own Hown.out).below hb2).frame h2 (fun _ g o e hs => ?_)
      have q1 := Hlt.out g hs
      have q2 := (Hown.out.lt g (by rw [e]; rfl)).1
      omega
    · rw [if_pos (show (fe, D2).1 ≠ 0 from hfe)]
      simp only at Hget Hbl Her ⊢
      go_enter Try.func91, Try.ntmps91
      go_wp2_with fail
      refine Hget.out.mono ?_; rintro e w1 ⟨A1, c1, rfl, hown, hb1⟩
      have Hown := Lib.hid hown; clear hown
      go_wp2_with fail
      rw [Hx.out]
      refine (Hbl.out w1 hb1).mono ?_; rintro e w2 ⟨rfl, hb2⟩
      go_wp2_with fail
      refine (Her.out w2 (Bthen hb1 hb2)).mono ?_; rintro e w3 ⟨rfl, ht⟩
      have Ht := Lib.hid ht; clear ht
      go_wp2_with fail
      go_ret2
      exact ⟨none, 0, rfl, BytesAt.nil _, Nat.le_refl _, Ht.out.after (Bthen hb1 hb2)⟩

theorem RPut_nil (gen : Nat) (v : Option Addr) (A : Option Addr) (n c : Nat) (w : World) : Calls Try.prog 85 #[.pointer none, .pointer v, .int .u64 (gen : Int), .slice A n c] w fun e w' => e = .returned (.int .i64 1) ∧ w = w' := by
  go_enter Try.func85, Try.ntmps85
  go_wp2_with fail
  go_ret
  exact ⟨rfl, rfl⟩
theorem RPut_bare (gen d : Nat) (A : Option Addr) (n c : Nat) (w : World) : Calls Try.prog 85 #[.pointer (some ⟨d, 0, none⟩), .pointer none, .int .u64 (gen : Int), .slice A n c] w fun e w' => e = .returned (.int .i64 1) ∧ w = w' := by
  go_enter Try.func85, Try.ntmps85
  go_wp2_with fail
  go_ret
  exact ⟨rfl, rfl⟩
theorem RErase_nil (gen : Nat) (w : World) : Calls Try.prog 87 #[.pointer none, .int .u64 (gen : Int)] w fun e w' => e = .returned (.int .i64 1) ∧ w = w' := by
  go_enter Try.func87, Try.ntmps87
  go_wp2_with fail
  go_ret
  exact ⟨rfl, rfl⟩
theorem RGet_nil (gen : Nat) (v : Option Addr) (w : World) : Calls Try.prog 86 #[.pointer none, .pointer v, .int .u64 (gen : Int)] w fun e w' => e = .returned (.tuple #[.slice none 0 0, .int .i64 1]) ∧ Below w.heap.size w w' := by
  go_enter Try.func86, Try.ntmps86
  go_wp2_with fail
  go_ret2
  exact ⟨rfl, Bbox _ _⟩

end
end Go.Proofs.Ytdjndeleafhglaa
namespace Go.Proofs.Ytdjndeleafhglaa
open Go.RowKit

theorem made_zero (N : Nat) : madeCells (Value.cells (.int .u8 0)) (N * 1) = (bytesV (List.replicate N 0)).toArray := by
  unfold bytesV
  rw [List.map_replicate]
  apply Array.ext_getElem?
  intro j
  by_cases hj : j < N
  · simp [madeCells, Value.cells, hj, Nat.mod_one]
  · rw [Array.getElem?_eq_none (by simp [madeCells]; omega), Array.getElem?_eq_none (by simp; omega)]
theorem Sec.eq_iff (x y : Sec) : x = y ↔ x.kind = y.kind ∧ x.life = y.life ∧ x.seq = y.seq ∧ x.gen = y.gen ∧ x.body = y.body := by
  cases x; cases y; simp

set_option maxRecDepth 100000 in
set_option maxHeartbeats 4000000 in
theorem R18Same_any (x y : Sec) (A B : Option Addr) (ca cb : Nat) (w : World) (ha : BytesAt w A x.body.length x.body) (hb : BytesAt w B y.body.length y.body) (hn : x.body.length ≤ 1000000) :
    Calls Try.prog 64 #[secV x A ca, secV y B cb] w fun e w' => e = .returned (.bool (decide (x = y))) ∧ Below w.heap.size w w' := by
  have hy : decide (x = y) = (decide (x.kind = y.kind) && (decide (x.life = y.life) && (decide (x.seq = y.seq) && (decide (x.gen = y.gen) && decide (x.body = y.body))))) := by
    rw [Bool.eq_iff_iff]; simp [Sec.eq_iff]
  rw [hy]
  obtain ⟨k, l, q, g, b⟩ := x
  obtain ⟨k', l', q', g', b'⟩ := y
  unfold secV
  simp only at *
  clear hy
  have Ha := Lib.hid ha; clear ha
  have Hb := Lib.hid hb; clear hb
  by_cases h1 : k = k'
  case neg =>
    go_enter Try.func64, Try.ntmps64
    go_wp2_with fail
    go_ret
    exact ⟨ret_bool (by simp [h1]), by ((repeat (first | (with_reducible exact Bnil _) | (with_reducible assumption) | (with_reducible refine Bset ?_ ?_ _) | (with_reducible refine Bnew ?_ _) | (with_reducible refine Bdrew ?_) | (with_reducible refine Bthen ?_ (by assumption)))); all_goals (simp; try omega))⟩
  subst h1
  by_cases h2 : l = l'
  case neg =>
    have h2' : ¬ (l : Int) = (l' : Int) := by omega
    go_enter Try.func64, Try.ntmps64
    go_wp2_with fail
    go_ret
    exact ⟨ret_bool (by simp [h2]), by ((repeat (first | (with_reducible exact Bnil _) | (with_reducible assumption) | (with_reducible refine Bset ?_ ?_ _) | (with_reducible refine Bnew ?_ _) | (with_reducible refine Bdrew ?_) | (with_reducible refine Bthen ?_ (by assumption)))); all_goals (simp; try omega))⟩
  subst h2
  by_cases h3 : q = q'
  case neg =>
    go_enter Try.func64, Try.ntmps64
    go_wp2_with fail
    go_ret
    exact ⟨ret_bool (by simp [h3]), by ((repeat (first | (with_reducible exact Bnil _) | (with_reducible assumption) | (with_reducible refine Bset ?_ ?_ _) | (with_reducible refine Bnew ?_ _) | (with_reducible refine Bdrew ?_) | (with_reducible refine Bthen ?_ (by assumption)))); all_goals (simp; try omega))⟩
  subst h3
  by_cases h4 : g = g'
  case neg =>
    have h4' : ¬ (g : Int) = (g' : Int) := by omega
    go_enter Try.func64, Try.ntmps64
    go_wp2_with fail
    go_ret
    exact ⟨ret_bool (by simp [h4]), by ((repeat (first | (with_reducible exact Bnil _) | (with_reducible assumption) | (with_reducible refine Bset ?_ ?_ _) | (with_reducible refine Bnew ?_ _) | (with_reducible refine Bdrew ?_) | (with_reducible refine Bthen ?_ (by assumption)))); all_goals (simp; try omega))⟩
  subst h4
  have hbx : Below w.heap.size w ((w.alloc (.cells #[.int .i64 k, .int .u64 (l : Int), .int .i64 q, .int .u64 (g : Int), .slice A b.length ca] 60)).alloc (.cells #[.int .i64 k, .int .u64 (l : Int), .int .i64 q, .int .u64 (g : Int), .slice B b'.length cb] 60)) := Bnew (Bbox _ _) _
  have Ha2 := Lib.hid (Ha.out.below hbx)
  have Hb2 := Lib.hid (Hb.out.below hbx)
  have Hbx := Lib.hid hbx; clear hbx
  go_enter Try.func64, Try.ntmps64
  go_wp2_with fail
  refine (Same_any A B b.length b'.length ca cb b b' _ Ha2.out Hb2.out hn).mono ?_
  rintro e w1 ⟨rfl, hb1⟩
  go_wp2_with fail
  go_ret
  exact ⟨ret_bool (by simp), Bthen Hbx.out hb1⟩

set_option maxRecDepth 100000 in
set_option maxHeartbeats 1000000 in
theorem R18Blank_any (A : Option Addr) (n c : Nat) (l : List UInt8) (w : World) (ha : BytesAt w A n l) (hn : n ≤ 1000000) :
    Calls Try.prog 61 #[.slice A n c] w fun e w' => e = .returned (.bool (decide (l = blankS))) ∧ w = w' := by
  have hl := ha.len
  have Ha := Lib.hid ha; clear ha
  have Hl := Lib.hid hl; clear hl
  go_enter Try.func61, Try.ntmps61
  go_wp2_with fail
  go_loop [3] (fun i => ∃ k : Nat, k ≤ n ∧ i = .int .i64 k ∧ ∀ j, j < k → l[j]? = some 0) (fun i => n - (intOf i).toNat)
  case atStart => exact ⟨0, by omega, rfl, fun j hj => by omega⟩
  case round =>
    obtain ⟨k, hk, rfl, hz⟩ := hrel
    by_cases hlt : k < n
    · obtain ⟨g, o, rfl, hr⟩ := Ha.out.at_ (by omega)
      obtain ⟨x, hx⟩ : ∃ x, l[k]? = some x := ⟨_, List.getElem?_eq_getElem (by rw [Hl.out]; exact hlt)⟩
      have hxa := hr k (.int .u8 (x.toNat : Int)) (by simp [bytesV, hx])
      have hkn : (k : Int) < (n : Int) := by omega
      have Hx := Lib.hid hx; clear hx hr
      have Hz := Lib.hid hz; clear hz
      by_cases h0 : x = 0
      · subst h0
        go_wp2_with fail
        exact ⟨⟨k + 1, by omega, by go_num, fun j hj => by
          by_cases h : j < k
          · exact Hz.out j h
          · obtain rfl : j = k := by omega
            exact Hx.out⟩, by simp [intOf]; omega⟩
      · have h1 : ¬ x.toNat = 0 := fun h => h0 (UInt8.toNat_inj.1 h)
        have h1' : ¬ (x.toNat : Int) = 0 := by omega
        go_wp2_with fail
        go_ret
        refine ⟨ret_bool ?_, rfl⟩
        symm
        rw [decide_eq_false_iff_not]
        intro e
        have h2 := Hx.out
        rw [e] at h2
        unfold blankS at h2
        rw [List.getElem?_replicate] at h2
        split at h2
        · exact h0 (Option.some.inj h2).symm
        · cases h2
    · obtain rfl : k = n := by omega
      have hkn : ¬ (k : Int) < (k : Int) := by omega
      have Hz := Lib.hid hz; clear hz
      by_cases h5 : k = 512
      · have h5' : (k : Int) = 512 := by omega
        go_wp2_with fail
        go_ret
        refine ⟨ret_bool ?_, rfl⟩
        symm
        rw [decide_eq_true_eq]
        apply List.ext_getElem?
        intro j
        unfold blankS
        by_cases hj : j < k
        · rw [Hz.out j hj, List.getElem?_replicate, if_pos (by omega)]
        · rw [List.getElem?_eq_none (by rw [Hl.out]; omega), List.getElem?_eq_none (by simp; omega)]
      · have h5' : ¬ (k : Int) = 512 := by omega
        go_wp2_with fail
        go_ret
        refine ⟨ret_bool ?_, rfl⟩
        symm
        rw [show ((k : Int) == 512) = false by simpa using h5', decide_eq_false_iff_not]
        intro e
        apply h5
        rw [← Hl.out, e]
        exact List.length_replicate

end Go.Proofs.Ytdjndeleafhglaa
namespace Go.Proofs.Ytdjndeleafhglaa
open Go.RowKit

theorem R29Sector_any (gen : Nat) (A : Option Addr) (c : Nat) (key : List UInt8) (w : World) : Calls Try.prog 89 #[.int .u64 (gen : Int), .slice A key.length c] w fun e w' => e = .returned (secV (rootS gen key) A c) ∧ Below w.heap.size w w' := by
  unfold secV
  simp only [rootS]
  go_enter Try.func89, Try.ntmps89
  go_wp2_with fail
  refine bodyPost_ret (v := .agg #[.int .i64 1, .int .u64 0, .int .i64 0, .int .u64 (gen : Int), .slice A key.length c]) ?_ rfl ⟨rfl, ?_⟩
  · simp [results, Try.results89, go_sem]
  · ((repeat (first | (with_reducible exact Bnil _) | (with_reducible assumption) | (with_reducible refine Bset ?_ ?_ _) | (with_reducible refine Bnew ?_ _) | (with_reducible refine Bdrew ?_) | (with_reducible refine Bthen ?_ (by assumption)))); all_goals (simp; try omega))
theorem R29Is_any (gen : Nat) (x : Sec) (A : Option Addr) (c : Nat) (w : World) : Calls Try.prog 90 #[.int .u64 (gen : Int), secV x A c] w fun e w' => e = .returned (.bool (decide (rootIs gen x))) ∧ Below w.heap.size w w' := by
  unfold rootIs secV
  by_cases e1 : x.kind = 1
  case neg => 
    go_enter Try.func90, Try.ntmps90
    go_wp2_with fail
    go_ret
    exact ⟨ret_bool (by simp [e1]), Bbox _ _⟩
  by_cases e2 : x.life = 0
  case neg => 
    have e2' : ¬ ((x.life : Int) = 0) := by omega
    go_enter Try.func90, Try.ntmps90
    go_wp2_with fail
    go_ret
    exact ⟨ret_bool (by simp [e2]), Bbox _ _⟩
  by_cases e3 : x.seq = 0
  case neg => 
    go_enter Try.func90, Try.ntmps90
    go_wp2_with fail
    go_ret
    exact ⟨ret_bool (by simp [e3]), Bbox _ _⟩
  by_cases e4 : x.gen = gen
  case neg => 
    have e4' : ¬ ((x.gen : Int) = (gen : Int)) := by omega
    go_enter Try.func90, Try.ntmps90
    go_wp2_with fail
    go_ret
    exact ⟨ret_bool (by simp [e4]), Bbox _ _⟩
  by_cases e5 : x.body.length = 32
  case neg => 
    have e5' : ¬ ((x.body.length : Int) = 32) := by omega
    go_enter Try.func90, Try.ntmps90
    go_wp2_with fail
    go_ret
    exact ⟨ret_bool (by simp [e5]; omega), Bbox _ _⟩
  go_enter Try.func90, Try.ntmps90
  go_wp2_with fail
  go_ret
  exact ⟨ret_bool (by simp [e1, e2, e3, e4, e5]), Bbox _ _⟩

def zeros32 : List UInt8 := List.replicate 32 0
theorem zeros32_len : zeros32.length = 32 := List.length_replicate

set_option maxRecDepth 100000 in
set_option maxHeartbeats 1000000 in
theorem alive29_any (w : World) : Calls Try.prog 84 #[] w fun e w' => e = .returned (.bool true) ∧ Below w.heap.size w w' := by
  obtain ⟨i0, hi, hz0, hz1, hz2⟩ := info_parts info_byte
  have hmk := fun (w : World) => run_make (P := Try.prog) w 41 5 i0 _ Try.underlying41 hi hz0 .i64 .i64 32 32 (by omega) (by omega) (by rw [hz2]; omega) (by omega)
  rw [hz1] at hmk
  have hB : madeCells (Value.cells (.int .u8 0)) (Int.toNat 32 * 1) = (bytesV zeros32).toArray := made_zero 32
  rw [hB] at hmk
  simp only [show (32 : Int).toNat = 32 from rfl] at hmk
  obtain ⟨D1, hput, hk1, hc1, hn1, hf1⟩ := rput_calm (Calm.new 2) rfl rfl [] 3 zeros32_len
  have hg1 : rgetD D1 (encU [] (rplace 3 : Int) (rootS 3 zeros32)).2 1 = ([], 11) := by
    rw [rget_calm hc1 hn1, hk1]
    simp only [show rplace 1 = rplace 3 from rfl, if_true]
    exact rkey_other zeros32_len (by decide) List.prefix_rfl (by decide) rfl
  have hg3 : rgetD D1 (encU [] (rplace 3 : Int) (rootS 3 zeros32)).2 3 = (zeros32, 0) := by
    rw [rget_calm hc1 hn1, hk1]
    simp only [if_true]
    exact rkey_put zeros32_len (by decide) List.prefix_rfl
  have Hput := Lib.hid hput; clear hput hk1 hc1 hn1 hf1
  generalize encU [] (rplace 3 : Int) (rootS 3 zeros32) = E at Hput hg1 hg3
  obtain ⟨eb, V⟩ := E
  simp only at Hput hg1 hg3
  have Hg1 := Lib.hid hg1; clear hg1
  have Hg3 := Lib.hid hg3; clear hg3
  go_enter Try.func84, Try.ntmps84
  go_wp2_with fail
  refine (New_yes 2 w (by decide) (by decide)).mono ?_; rintro e w1 ⟨rfl, hd1, hb1⟩
  have Hd1 := Lib.hid hd1; clear hd1
  go_wp2_with fail
  refine (Symbolic_at w1).mono ?_; rintro e w2 ⟨u, m, rfl, hs2, hu, hm, hb2⟩
  have hrig := Rig.made hb1 Hd1.out hs2 hu hm hb2
  clear hs2
  go_wp2_with fail
  have hb3 : Below w2.heap.size w2 (w2.alloc (.cells (bytesV zeros32).toArray 5)) := Bbox _ _
  have hby : BytesAt (w2.alloc (.cells (bytesV zeros32).toArray 5)) (some ⟨w2.heap.size, 0, none⟩) zeros32.length zeros32 := BytesAt.of_block _ rfl (heap_alloc_new w2 _)
  generalize w2.alloc (.cells (bytesV zeros32).toArray 5) = w3 at hb3 hby ⊢
  obtain ⟨S3, hd3, hB3, hS3⟩ := (hrig.then hb3).ex
  have hp := RPut_c (q := 0) 3 (some ⟨w2.heap.size, 0, none⟩) 32 zeros32 hd3 (Few.new 2) (by decide) (by decide) (by decide) hby
  rw [Hput.out] at hp
  have Hp := Lib.hid hp; clear hp hd3 hby
  refine Hp.out.mono ?_; rintro e w4 ⟨rfl, ht⟩
  have hrig4 := Rig.next hB3 hS3 ht
  obtain ⟨S4, hd4, hB4, hS4⟩ := hrig4.ex
  have hq := RGet_c 1 hd4 (by decide)
  rw [Hg1.out] at hq
  have Hq := Lib.hid hq; clear hq ht
  go_wp2_with fail
  refine Hq.out.mono ?_; rintro e w5 ⟨A5, c5, rfl, _, hb5⟩
  have hq := RGet_c 3 (hd4.below hb5) (by decide)
  rw [Hg3.out] at hq
  have Hq3 := Lib.hid hq; clear hq hd4
  go_wp2_with fail
  refine Hq3.out.mono ?_; rintro e w6 ⟨A6, c6, rfl, _, hb6⟩
  go_wp2_with fail
  go_ret
  exact ⟨rfl, Bthen (Bthen hB4 hb5) hb6⟩

end Go.Proofs.Ytdjndeleafhglaa
namespace Go.Proofs.Ytdjndeleafhglaa
open Go.RowKit

set_option maxRecDepth 100000 in
set_option maxHeartbeats 1000000 in
theorem RootPuts_long (gen other : Nat) (A : Option Addr) (c : Nat) (key : List UInt8) (w : World) (h : 100 < key.length) :
    Calls Try.prog 12 #[.int .u64 (gen : Int), .int .u64 (other : Int), .slice A key.length c] w fun e w' => e = .returned (.bool true) ∧ Below w.heap.size w w' := by
  have h' : (100 : Int) < (key.length : Int) := by omega
  go_enter Try.func12, Try.ntmps12
  go_wp2_with fail
  refine (alive29_any w).mono ?_; rintro e w1 ⟨rfl, hb1⟩
  go_wp2_with fail
  go_ret
  exact ⟨rfl, hb1⟩

set_option maxRecDepth 100000 in
set_option maxHeartbeats 1000000 in
theorem RootPuts_no (gen other : Nat) (A : Option Addr) (c : Nat) (key : List UInt8) (w : World) (h : ¬ 100 < key.length) (hk : key.length ≠ 32) (hg : gen < 18446744073709551616) (hA : BytesAt w A key.length key) :
    Calls Try.prog 12 #[.int .u64 (gen : Int), .int .u64 (other : Int), .slice A key.length c] w fun e w' => e = .returned (.bool true) ∧ Below w.heap.size w w' := by
  have h' : ¬ (100 : Int) < (key.length : Int) := by omega
  have hk' : ¬ (key.length : Int) = 32 := by omega
  have hput : rputD (newD 2) [] gen key = (4, newD 2, []) := by unfold rputD; rw [if_pos hk]
  have hbl : rblankD (newD 2) gen = (true, 0) := by
    rw [rblank_calm (Calm.new 2) rfl]
    rfl
  have Hput := Lib.hid hput; clear hput
  have Hbl := Lib.hid hbl; clear hbl
  have HA := Lib.hid hA; clear hA
  go_enter Try.func12, Try.ntmps12
  go_wp2_with fail
  refine (New_yes 2 w (by decide) (by decide)).mono ?_; rintro e w1 ⟨rfl, hd1, hb1⟩
  have Hd1 := Lib.hid hd1; clear hd1
  go_wp2_with fail
  refine (Symbolic_at w1).mono ?_; rintro e w2 ⟨u, m, rfl, hs2, hu, hm, hb2⟩
  obtain ⟨S2, hd2, hB2, hS2⟩ := (Rig.made hb1 Hd1.out hs2 hu hm hb2).ex
  have hp := RPut_c (q := 0) gen A c key hd2 (Few.new 2) (by decide) (by decide) hg (HA.out.below hB2)
  rw [Hput.out] at hp
  have Hp := Lib.hid hp; clear hp hs2 hd2
  go_wp2_with fail
  refine Hp.out.mono ?_; rintro e w3 ⟨rfl, ht⟩
  obtain ⟨S3, hd3, hB3, hS3⟩ := (Rig.next hB2 hS2 ht).ex
  have Hd3 := Lib.hid hd3; clear hd3 ht
  go_wp2_with fail
  refine (RGet_nil gen _ _).mono ?_; rintro e w4 ⟨rfl, hb4⟩
  go_wp2_with fail
  refine (RPut_nil gen _ _ _ _ _).mono ?_; rintro e w5 ⟨rfl, rfl⟩
  go_wp2_with fail
  refine (RPut_bare gen _ _ _ _ _).mono ?_; rintro e w5 ⟨rfl, rfl⟩
  go_wp2_with fail
  refine (RErase_nil gen _).mono ?_; rintro e w5 ⟨rfl, rfl⟩
  have hq := RBlank_c gen (Hd3.out.below hb4) hg
  rw [Hbl.out] at hq
  have Hq := Lib.hid hq; clear hq
  go_wp2_with fail
  refine Hq.out.mono ?_; rintro e w5 ⟨rfl, hb5⟩
  go_wp2_with fail
  refine (alive29_any _).mono ?_; rintro e w6 ⟨rfl, hb6⟩
  go_wp2_with fail
  go_ret
  exact ⟨rfl, Bthen (Bthen (Bthen hB3 hb4) hb5) hb6⟩

set_option maxRecDepth 100000 in
set_option maxHeartbeats 4000000 in
theorem RootPuts_yes (gen other : Nat) (A : Option Addr) (c : Nat) (key : List UInt8) (w : World) (hk : key.length = 32) (hg : gen < 18446744073709551616) (ho : other < 18446744073709551616) (hA : BytesAt w A key.length key) :
    Calls Try.prog 12 #[.int .u64 (gen : Int), .int .u64 (other : Int), .slice A key.length c] w fun e w' => e = .returned (.bool true) ∧ Below w.heap.size w w' := by
  obtain ⟨D1, hput, hk1, hc1, hn1, hf1⟩ := rput_calm (Calm.new 2) rfl rfl [] gen hk
  obtain ⟨D2, her, hk2, hc2, hn2, hf2⟩ := rerase_calm hc1 hn1 hf1 gen
  have hF1 := rputD_few (Few.new 2) [] gen key
  rw [hput] at hF1
  have hdec : decU (encU [] (rplace gen : Int) (rootS gen key)).2 (rplace gen : Int) (encU [] (rplace gen : Int) (rootS gen key)).1 = (0, rootS gen key) := decU_enc (rootS_right gen hk) (by simp [rootS]) (by simpa [rootS] using hg) List.prefix_rfl
  have hgo : rgetD D1 (encU [] (rplace gen : Int) (rootS gen key)).2 other = if other = gen then (key, 0) else ([], 11) := by
    rw [rget_calm hc1 hn1, hk1]
    by_cases e : other = gen
    · subst e
      simp only [if_true]
      exact rkey_put hk ho List.prefix_rfl
    · rw [if_neg e]
      by_cases e2 : rplace other = rplace gen
      · simp only [e2, if_true]
        exact rkey_other hk hg List.prefix_rfl e e2
      · simp only [e2, if_false]
        exact rkey_blank _ _
  have hb2 : rblankD D2 gen = (true, 0) := by
    rw [rblank_calm hc2 hn2, hk2]
    simp
  have hkp1 : D1.kept (rplace gen) = (encU [] (rplace gen : Int) (rootS gen key)).1 := by rw [hk1]; simp
  have hkp2 : D2.kept (rplace gen) = blankS := by rw [hk2]; simp
  have hpl := rplace_lt gen
  have hpr : (gen : Int) % 2 = (rplace gen : Int) := by unfold rplace; omega
  have Hput := Lib.hid hput
  have Her := Lib.hid her
  have Hb2 := Lib.hid hb2
  have HF1 := Lib.hid hF1
  have Hkp2 := Lib.hid hkp2
  clear hput her hb2 hF1 hk1 hk2 hkp2 hc1 hc2 hf1 hf2
  generalize encU [] (rplace gen : Int) (rootS gen key) = E at Hput hdec hgo hkp1
  obtain ⟨eb, V⟩ := E
  simp only at Hput hdec hgo hkp1
  have Hdec := Lib.hid hdec; clear hdec
  have Hgo := Lib.hid hgo; clear hgo
  have Hkp1 := Lib.hid hkp1; clear hkp1
  have hA32 := hA
  rw [hk] at hA32
  have HA := Lib.hid hA; clear hA
  have HA32 := Lib.hid hA32; clear hA32
  obtain ⟨p, hp⟩ : ∃ p, p = rplace gen := ⟨_, rfl⟩
  rw [← hp] at hpl hpr Hdec Hkp1 Hkp2
  have Hp := Lib.hid hp; clear hp
  have Hk := Lib.hid hk
  rw [hk]
  go_enter Try.func12, Try.ntmps12
  go_wp2_with fail
  refine (New_yes 2 w (by decide) (by decide)).mono ?_; rintro e w1 ⟨rfl, hd1, hb1⟩
  have Hd1 := Lib.hid hd1; clear hd1
  go_wp2_with fail
  refine (Symbolic_at w1).mono ?_; rintro e w2 ⟨u, m, rfl, hs2, hu, hm, hb2⟩
  obtain ⟨S2, hd2, hB2, hS2⟩ := (Rig.made hb1 Hd1.out hs2 hu hm hb2).ex
  have hp := RPut_c (q := 0) gen A c key hd2 (Few.new 2) (by decide) (by decide) hg (HA.out.below hB2)
  rw [Hput.out, Hk.out] at hp
  have Hpp := Lib.hid hp; clear hp hs2 hd2
  go_wp2_with fail
  refine Hpp.out.mono ?_; rintro e w3 ⟨rfl, ht⟩
  obtain ⟨S3, hd3, hB3, hS3⟩ := (Rig.next hB2 hS2 ht).ex
  have Hd3 := Lib.hid hd3; clear hd3 ht
  go_wp2_with fail
  refine (RGet_nil gen _ _).mono ?_; rintro e w4 ⟨rfl, hb4⟩
  go_wp2_with fail
  refine (RPut_nil gen _ _ _ _ _).mono ?_; rintro e w5 ⟨rfl, rfl⟩
  go_wp2_with fail
  refine (RPut_bare gen _ _ _ _ _).mono ?_; rintro e w5 ⟨rfl, rfl⟩
  go_wp2_with fail
  refine (RErase_nil gen _).mono ?_; rintro e w5 ⟨rfl, rfl⟩
  have hB4 := Bthen hB3 hb4
  have Hd4 := Lib.hid (Hd3.out.below hb4)
  have hkq := Hd4.out.kept p (by rw [hn1]; exact hpl)
  rw [Hkp1.out] at hkq
  have Hkq := Lib.hid hkq; clear hkq
  go_wp2_with fail
  refine Hkq.out.mono ?_; rintro e w5 ⟨rfl, hby, hb5⟩
  have hdq := (Hd4.out.below hb5).decode (p : Int) _ _ 512 _ hby (Nat.le_refl _)
  rw [Hdec.out] at hdq
  have Hdq := Lib.hid hdq; clear hdq hby
  go_wp2_with fail
  refine Hdq.out.mono ?_; rintro e w6 ⟨A6, c6, rfl, hown, hb6⟩
  have hB6 := Bthen (Bthen hB4 hb5) hb6
  have hby6 := BytesAt.own hown
  have hcap6 := own_cap hown
  simp only [rootS] at hby6 hcap6
  rw [Hk.out] at hby6 hcap6
  have Hd6 := Lib.hid ((Hd4.out.below hb5).below hb6)
  clear hown
  unfold secV
  simp only [rootS]
  rw [Hk.out]
  go_wp2_with fail
  have hn7 := heap_alloc_new w6 (.cells #[.int .i64 1, .int .u64 0, .int .i64 0, .int .u64 (gen : Int), .slice A6 32 c6] 54)
  have hb7 : Below w6.heap.size w6 (w6.alloc (.cells #[.int .i64 1, .int .u64 0, .int .i64 0, .int .u64 (gen : Int), .slice A6 32 c6] 54)) := Bbox _ _
  generalize w6.alloc (.cells #[.int .i64 1, .int .u64 0, .int .i64 0, .int .u64 (gen : Int), .slice A6 32 c6] 54) = w7 at hn7 hb7 ⊢
  have hB7 := Bthen hB6 hb7
  have hby7 := Lib.hid (hby6.below hb7); clear hby6
  have Hd7 := Lib.hid (Hd6.out.below hb7)
  have yyb := box_facts (((Bnil w7).block _ (blk_lt hn7)).trans hn7); have yy0 := fun x => (yyb x).1; have yy1 := fun x => (yyb x).2.1; have yy2 := fun x => (yyb x).2.2.1; have yy3 := fun x => (yyb x).2.2.2.1; have yy4 := fun x => (yyb x).2.2.2.2; clear yyb
  refine wp_region_in (BelowW w7) [(0, true), (1, true), (2, true), (3, true), (4, true), (5, true), (6, true), (7, true), (8, true), (9, true), (10, true), (11, true), (12, true), (13, true), (14, true), (15, true), (16, true), (17, true), (18, true), (19, true), (20, false), (21, false), (22, true), (23, true)] (by kernel_rfl) (by kernel_rfl) (fun _ _ _ _ _ h => h) (inB_drew _) (fun hne => ?_)
  simp only [permOps, List.map_cons, List.map_nil, List.getD_cons_zero, List.getD_cons_succ]
  (repeat ((with_reducible refine wpPerm_F ?_); intro K hK; go_simp; refine hK _ _ ?_; clear hK K))
  (with_reducible refine wpPerm_G ?_); intro K K' hK hK'; go_simp
  have hs7 := R29Sector_any gen A c key w7.drew
  rw [Hk.out] at hs7
  unfold secV at hs7
  simp only [rootS] at hs7
  rw [Hk.out] at hs7
  have Hs7 := Lib.hid hs7; clear hs7
  refine Hs7.out.mono ?_; rintro e w8 ⟨rfl, hb8⟩
  have hV1 : Below w7.heap.size w7 w8 := Bthen (Bdrew (Bnil _)) hb8
  (refine hK _ _ ?_; clear hK hK' K K')
  refine ⟨inB_more hV1, ?_⟩
  (with_reducible refine wpPerm_G ?_); intro K K' hK hK'; go_simp
  have hsm := R18Same_any (rootS gen key) (rootS gen key) A6 A c6 c w8 (by simp only [rootS]; rw [Hk.out]; exact hby7.out.below hV1) (by simp only [rootS]; exact (HA.out.below hB7).below hV1) (by simp only [rootS]; omega)
  rw [show decide (rootS gen key = rootS gen key) = true by simp] at hsm
  unfold secV at hsm
  simp only [rootS] at hsm
  rw [Hk.out] at hsm
  have Hsm := Lib.hid hsm; clear hsm
  refine Hsm.out.mono ?_; rintro e w9 ⟨rfl, hb9⟩
  have hV2 : Below w7.heap.size w7 w9 := Bthen hV1 hb9
  (refine hK _ _ ?_; clear hK hK' K K')
  refine ⟨inB_more hV2, ?_⟩
  (repeat ((with_reducible refine wpPerm_F ?_); intro K hK; go_simp; refine hK _ _ ?_; clear hK K))
  refine wpPerm_nil ?_
  clear yy0 yy1 yy2 yy3 yy4 hn7
  have hB9 := Bthen hB7 hV2
  have hgq := RGet_c other (Hd7.out.below hV2) ho
  rw [Hgo.out] at hgq
  have Hd9 := Lib.hid (Hd7.out.below hV2)
  by_cases hog : other = gen
  · rw [if_pos hog] at hgq
    simp only at hgq
    rw [Hk.out] at hgq
    subst hog
    have Hgq := Lib.hid hgq; clear hgq
    go_wp2_with fail
    refine Hgq.out.mono ?_; rintro e w10 ⟨A10, c10, rfl, hown, hb10⟩
    have hsq := Same_any A10 A 32 32 c10 c key key w10 (BytesAt.own hown) ((HA32.out.below hB9).below hb10) (by decide)
    rw [show decide (key = key) = true by simp] at hsq
    have Hsq := Lib.hid hsq; clear hsq hown
    go_wp2_with fail
    refine Hsq.out.mono ?_; rintro e w11 ⟨rfl, hb11⟩
    have hBE := Bthen (Bthen hB9 hb10) hb11
    have HdE := Lib.hid ((Hd9.out.below hb10).below hb11)
    have heq := RErase_c _ HdE.out HF1.out (by decide) hg
    rw [Her.out] at heq
    have Heq := Lib.hid heq; clear heq
    go_wp2_with fail
    refine Heq.out.mono ?_; rintro e w12 ⟨rfl, ht⟩
    obtain ⟨S12, hd12, hB12, hS12⟩ := (Rig.next hBE hS3 ht).ex
    have hq := RBlank_c _ hd12 hg
    rw [Hb2.out] at hq
    have Hq := Lib.hid hq
    have Hd12 := Lib.hid hd12
    clear hq hd12 ht
    go_wp2_with fail
    refine Hq.out.mono ?_; rintro e w13 ⟨rfl, hb13⟩
    have hkq := (Hd12.out.below hb13).kept p (by rw [hn2]; exact hpl)
    rw [Hkp2.out] at hkq
    have Hkq := Lib.hid hkq; clear hkq
    go_wp2_with fail
    refine Hkq.out.mono ?_; rintro e w14 ⟨rfl, hby14, hb14⟩
    have hrb := R18Blank_any _ 512 512 blankS w14 hby14 (by decide)
    rw [show decide (blankS = blankS) = true by simp] at hrb
    have Hrb := Lib.hid hrb; clear hrb hby14
    go_wp2_with fail
    refine Hrb.out.mono ?_; rintro e w15 ⟨rfl, rfl⟩
    go_wp2_with fail
    refine (alive29_any _).mono ?_; rintro e w16 ⟨rfl, hb16⟩
    go_wp2_with fail
    go_ret
    exact ⟨rfl, Bthen (Bthen (Bthen hB12 hb13) hb14) hb16⟩
  · rw [if_neg hog] at hgq
    have hog' : ¬ (other : Int) = (gen : Int) := by omega
    have Hgq := Lib.hid hgq; clear hgq
    go_wp2_with fail
    refine Hgq.out.mono ?_; rintro e w10 ⟨A10, c10, rfl, hown, hb10⟩
    clear hown
    have hBE := Bthen hB9 hb10
    have HdE := Lib.hid (Hd9.out.below hb10)
    have heq := RErase_c _ HdE.out HF1.out (by decide) hg
    rw [Her.out] at heq
    have Heq := Lib.hid heq; clear heq
    go_wp2_with fail
    refine Heq.out.mono ?_; rintro e w12 ⟨rfl, ht⟩
    obtain ⟨S12, hd12, hB12, hS12⟩ := (Rig.next hBE hS3 ht).ex
    have hq := RBlank_c _ hd12 hg
    rw [Hb2.out] at hq
    have Hq := Lib.hid hq
    have Hd12 := Lib.hid hd12
    clear hq hd12 ht
    go_wp2_with fail
    refine Hq.out.mono ?_; rintro e w13 ⟨rfl, hb13⟩
    have hkq := (Hd12.out.below hb13).kept p (by rw [hn2]; exact hpl)
    rw [Hkp2.out] at hkq
    have Hkq := Lib.hid hkq; clear hkq
    go_wp2_with fail
    refine Hkq.out.mono ?_; rintro e w14 ⟨rfl, hby14, hb14⟩
    have hrb := R18Blank_any _ 512 512 blankS w14 hby14 (by decide)
    rw [show decide (blankS = blankS) = true by simp] at hrb
    have Hrb := Lib.hid hrb; clear hrb hby14
    go_wp2_with fail
    refine Hrb.out.mono ?_; rintro e w15 ⟨rfl, rfl⟩
    go_wp2_with fail
    refine (alive29_any _).mono ?_; rintro e w16 ⟨rfl, hb16⟩
    go_wp2_with fail
    go_ret
    exact ⟨rfl, Bthen (Bthen (Bthen hB12 hb13) hb14) hb16⟩

theorem RootPuts_walk (gen other : Int) (A : Option Addr) (n c : Nat) (key : List UInt8) (w : World) (hA : BytesAt w A n key) (hg0 : 0 ≤ gen) (hg : gen < 18446744073709551616) (ho0 : 0 ≤ other) (ho : other < 18446744073709551616) :
    Calls Try.prog 12 #[.int .u64 gen, .int .u64 other, .slice A n c] w fun e w' => e = .returned (.bool true) ∧ Below w.heap.size w w' := by
  obtain ⟨gen, rfl⟩ := Int.eq_ofNat_of_zero_le hg0
  obtain ⟨other, rfl⟩ := Int.eq_ofNat_of_zero_le ho0
  obtain rfl := hA.len
  by_cases h : 100 < key.length
  · exact RootPuts_long gen other A c key w h
  · by_cases hk : key.length = 32
    · exact RootPuts_yes gen other A c key w hk (by omega) (by omega) hA
    · exact RootPuts_no gen other A c key w h hk (by omega) hA

end Go.Proofs.Ytdjndeleafhglaa
namespace Go.Proofs.Ytdjndeleafhglaa
open Go

def orderCodes : List Nat := [104, 97, 114, 110, 101, 115, 115, 32, 48, 54, 97, 100, 99, 48, 97, 101, 49, 53, 100, 48, 54, 101, 101, 100, 56, 50, 99, 52, 48, 48, 97, 52, 50, 50, 56, 55, 100, 100, 100, 102, 50, 57, 56, 48, 52, 98, 53, 54, 56, 97, 51, 97, 56, 48, 48, 57, 51, 51, 50, 48, 48, 97, 56, 97, 101, 56, 49, 101, 52, 98, 49, 53, 32, 99, 117, 116, 32, 97, 116, 32, 111, 117, 98, 108, 105, 101, 116, 116, 101, 47, 111, 117, 98, 108, 105, 101, 116, 116, 101, 108, 97, 119, 50, 49, 46, 71, 101, 111, 109, 83, 105, 122, 101, 115, 32, 111, 117, 98, 108, 105, 101, 116, 116, 101, 47, 111, 117, 98, 108, 105, 101, 116, 116, 101, 108, 97, 119, 50, 49, 46, 71, 101, 111, 109, 65, 112, 97, 114, 116, 32, 111, 117, 98, 108, 105, 101, 116, 116, 101, 47, 111, 117, 98, 108, 105, 101, 116, 116, 101, 108, 97, 119, 50, 49, 46, 71, 101, 111, 109, 80, 108, 97, 99, 101, 115, 32, 111, 117, 98, 108, 105, 101, 116, 116, 101, 47, 111, 117, 98, 108, 105, 101, 116, 116, 101, 108, 97, 119, 49, 57, 46, 68, 105, 115, 107, 84, 101, 97, 114, 115, 32, 111, 117, 98, 108, 105, 101, 116, 116, 101, 47, 111, 117, 98, 108, 105, 101, 116, 116, 101, 108, 97, 119, 49, 56, 46, 83, 101, 99, 116, 111, 114, 82, 101, 97, 100, 115, 32, 111, 117, 98, 108, 105, 101, 116, 116, 101, 47, 111, 117, 98, 108, 105, 101, 116, 116, 101, 108, 97, 119, 49, 56, 46, 83, 101, 99, 116, 111, 114, 66, 121, 116, 101, 115, 32, 111, 117, 98, 108, 105, 101, 116, 116, 101, 47, 111, 117, 98, 108, 105, 101, 116, 116, 101, 108, 97, 119, 49, 56, 46, 83, 101, 99, 116, 111, 114, 66, 97, 99, 107, 32, 111, 117, 98, 108, 105, 101, 116, 116, 101, 47, 111, 117, 98, 108, 105, 101, 116, 116, 101, 108, 97, 119, 49, 57, 46, 68, 105, 115, 107, 80, 108, 97, 121, 115, 32, 111, 117, 98, 108, 105, 101, 116, 116, 101, 47, 111, 117, 98, 108, 105, 101, 116, 116, 101, 108, 97, 119, 49, 57, 46, 68, 105, 115, 107, 75, 101, 101, 112, 115, 32, 111, 117, 98, 108, 105, 101, 116, 116, 101, 47, 111, 117, 98, 108, 105, 101, 116, 116, 101, 108, 97, 119, 50, 57, 46, 82, 111, 111, 116, 80, 117, 116, 115, 32, 111, 117, 98, 108, 105, 101, 116, 116, 101, 47, 111, 117, 98, 108, 105, 101, 116, 116, 101, 108, 97, 119, 50, 57, 46, 82, 111, 111, 116, 82, 101, 97, 100, 115, 32, 111, 117, 98, 108, 105, 101, 116, 116, 101, 47, 111, 117, 98, 108, 105, 101, 116, 116, 101, 108, 97, 119, 50, 57, 46, 82, 111, 111, 116, 67, 114, 97, 115, 104, 101, 115, 32, 111, 117, 98, 108, 105, 101, 116, 116, 101, 47, 111, 117, 98, 108, 105, 101, 116, 116, 101, 108, 97, 119, 50, 52, 46, 83, 117, 112, 101, 114, 87, 114, 105, 116, 101, 115, 32, 111, 117, 98, 108, 105, 101, 116, 116, 101, 47, 111, 117, 98, 108, 105, 101, 116, 116, 101, 108, 97, 119, 50, 53, 46, 83, 110, 97, 112, 87, 114, 105, 116, 101, 115, 32, 111, 117, 98, 108, 105, 101, 116, 116, 101, 47, 111, 117, 98, 108, 105, 101, 116, 116, 101, 108, 97, 119, 50, 53, 46, 83, 110, 97, 112, 65, 112, 97, 114, 116, 32, 111, 117, 98, 108, 105, 101, 116, 116, 101, 47, 111, 117, 98, 108, 105, 101, 116, 116, 101, 108, 97, 119, 50, 52, 46, 83, 117, 112, 101, 114, 82, 101, 97, 100, 115, 32, 111, 117, 98, 108, 105, 101, 116, 116, 101, 47, 111, 117, 98, 108, 105, 101, 116, 116, 101, 108, 97, 119, 50, 53, 46, 83, 110, 97, 112, 82, 101, 97, 100, 115, 32, 111, 117, 98, 108, 105, 101, 116, 116, 101, 47, 111, 117, 98, 108, 105, 101, 116, 116, 101, 108, 97, 119, 50, 52, 46, 83, 117, 112, 101, 114, 67, 114, 97, 115, 104, 101, 115, 32, 111, 117, 98, 108, 105, 101, 116, 116, 101, 47, 111, 117, 98, 108, 105, 101, 116, 116, 101, 108, 97, 119, 50, 51, 46, 87, 97, 108, 83, 99, 97, 110, 115, 32, 111, 117, 98, 108, 105, 101, 116, 116, 101, 47, 111, 117, 98, 108, 105, 101, 116, 116, 101, 108, 97, 119, 50, 51, 46, 87, 97, 108, 65, 112, 112, 101, 110, 100, 115, 32, 111, 117, 98, 108, 105, 101, 116, 116, 101, 47, 111, 117, 98, 108, 105, 101, 116, 116, 101, 108, 97, 119, 50, 51, 46, 87, 97, 108, 67, 114, 97, 115, 104, 101, 115]
def orderWords : List (List Nat) := [[99, 117, 116], [97, 116], [111, 117, 98, 108, 105, 101, 116, 116, 101, 47, 111, 117, 98, 108, 105, 101, 116, 116, 101, 108, 97, 119, 50, 49, 46, 71, 101, 111, 109, 83, 105, 122, 101, 115], [111, 117, 98, 108, 105, 101, 116, 116, 101, 47, 111, 117, 98, 108, 105, 101, 116, 116, 101, 108, 97, 119, 50, 49, 46, 71, 101, 111, 109, 65, 112, 97, 114, 116], [111, 117, 98, 108, 105, 101, 116, 116, 101, 47, 111, 117, 98, 108, 105, 101, 116, 116, 101, 108, 97, 119, 50, 49, 46, 71, 101, 111, 109, 80, 108, 97, 99, 101, 115], [111, 117, 98, 108, 105, 101, 116, 116, 101, 47, 111, 117, 98, 108, 105, 101, 116, 116, 101, 108, 97, 119, 49, 57, 46, 68, 105, 115, 107, 84, 101, 97, 114, 115], [111, 117, 98, 108, 105, 101, 116, 116, 101, 47, 111, 117, 98, 108, 105, 101, 116, 116, 101, 108, 97, 119, 49, 56, 46, 83, 101, 99, 116, 111, 114, 82, 101, 97, 100, 115], [111, 117, 98, 108, 105, 101, 116, 116, 101, 47, 111, 117, 98, 108, 105, 101, 116, 116, 101, 108, 97, 119, 49, 56, 46, 83, 101, 99, 116, 111, 114, 66, 121, 116, 101, 115], [111, 117, 98, 108, 105, 101, 116, 116, 101, 47, 111, 117, 98, 108, 105, 101, 116, 116, 101, 108, 97, 119, 49, 56, 46, 83, 101, 99, 116, 111, 114, 66, 97, 99, 107], [111, 117, 98, 108, 105, 101, 116, 116, 101, 47, 111, 117, 98, 108, 105, 101, 116, 116, 101, 108, 97, 119, 49, 57, 46, 68, 105, 115, 107, 80, 108, 97, 121, 115], [111, 117, 98, 108, 105, 101, 116, 116, 101, 47, 111, 117, 98, 108, 105, 101, 116, 116, 101, 108, 97, 119, 49, 57, 46, 68, 105, 115, 107, 75, 101, 101, 112, 115], [111, 117, 98, 108, 105, 101, 116, 116, 101, 47, 111, 117, 98, 108, 105, 101, 116, 116, 101, 108, 97, 119, 50, 57, 46, 82, 111, 111, 116, 80, 117, 116, 115], [111, 117, 98, 108, 105, 101, 116, 116, 101, 47, 111, 117, 98, 108, 105, 101, 116, 116, 101, 108, 97, 119, 50, 57, 46, 82, 111, 111, 116, 82, 101, 97, 100, 115], [111, 117, 98, 108, 105, 101, 116, 116, 101, 47, 111, 117, 98, 108, 105, 101, 116, 116, 101, 108, 97, 119, 50, 57, 46, 82, 111, 111, 116, 67, 114, 97, 115, 104, 101, 115], [111, 117, 98, 108, 105, 101, 116, 116, 101, 47, 111, 117, 98, 108, 105, 101, 116, 116, 101, 108, 97, 119, 50, 52, 46, 83, 117, 112, 101, 114, 87, 114, 105, 116, 101, 115], [111, 117, 98, 108, 105, 101, 116, 116, 101, 47, 111, 117, 98, 108, 105, 101, 116, 116, 101, 108, 97, 119, 50, 53, 46, 83, 110, 97, 112, 87, 114, 105, 116, 101, 115], [111, 117, 98, 108, 105, 101, 116, 116, 101, 47, 111, 117, 98, 108, 105, 101, 116, 116, 101, 108, 97, 119, 50, 53, 46, 83, 110, 97, 112, 65, 112, 97, 114, 116], [111, 117, 98, 108, 105, 101, 116, 116, 101, 47, 111, 117, 98, 108, 105, 101, 116, 116, 101, 108, 97, 119, 50, 52, 46, 83, 117, 112, 101, 114, 82, 101, 97, 100, 115], [111, 117, 98, 108, 105, 101, 116, 116, 101, 47, 111, 117, 98, 108, 105, 101, 116, 116, 101, 108, 97, 119, 50, 53, 46, 83, 110, 97, 112, 82, 101, 97, 100, 115], [111, 117, 98, 108, 105, 101, 116, 116, 101, 47, 111, 117, 98, 108, 105, 101, 116, 116, 101, 108, 97, 119, 50, 52, 46, 83, 117, 112, 101, 114, 67, 114, 97, 115, 104, 101, 115], [111, 117, 98, 108, 105, 101, 116, 116, 101, 47, 111, 117, 98, 108, 105, 101, 116, 116, 101, 108, 97, 119, 50, 51, 46, 87, 97, 108, 83, 99, 97, 110, 115], [111, 117, 98, 108, 105, 101, 116, 116, 101, 47, 111, 117, 98, 108, 105, 101, 116, 116, 101, 108, 97, 119, 50, 51, 46, 87, 97, 108, 65, 112, 112, 101, 110, 100, 115], [111, 117, 98, 108, 105, 101, 116, 116, 101, 47, 111, 117, 98, 108, 105, 101, 116, 116, 101, 108, 97, 119, 50, 51, 46, 87, 97, 108, 67, 114, 97, 115, 104, 101, 115]]
theorem order_text : Try.prog.initOrder = String.ofList (orderCodes.map Char.ofNat) := by kernel_rfl
theorem order_chars : Try.prog.initOrder.toList = orderCodes.map Char.ofNat := by rw [order_text]; exact String.toList_ofList
theorem order_words : behindMainWord (wordsSigns Try.prog.initOrder.toList) = orderWords.map (List.map Char.ofNat) := by
  rw [order_chars]
  kernel_rfl
theorem order_strip : stripLifts liftWords (orderWords.map (List.map Char.ofNat)) = ([], orderWords.map (List.map Char.ofNat)) := by kernel_rfl
theorem order_cons : ∃ c rest, orderWords.map (List.map Char.ofNat) = c :: rest ∧ c = "cut".toList := ⟨_, _, rfl, by kernel_rfl⟩

theorem lifts_of {P : Program} {ws : List (List Char)} (h : behindMainWord (wordsSigns P.initOrder.toList) = ws) (hs : stripLifts liftWords ws = ([], ws)) : P.headLifts = [] := by
  unfold Program.headLifts
  rw [h, hs]
  dsimp only
  split <;> rfl
theorem make_of {P : Program} {ws : List (List Char)} (h : behindMainWord (wordsSigns P.initOrder.toList) = ws) (hc : ∃ c rest, ws = c :: rest ∧ c = "cut".toList) : P.make = some .cut := by
  obtain ⟨c, rest, rfl, rfl⟩ := hc
  unfold Program.make
  rw [h]
  dsimp only
  rw [if_neg (by decide), if_pos (by simp)]
theorem final_of {P : Program} {ws : List (List Char)} (h : behindMainWord (wordsSigns P.initOrder.toList) = ws) (hs : stripLifts liftWords ws = ([], ws)) (hc : ∃ c rest, ws = c :: rest ∧ c = "cut".toList) : P.liftsFinal = false := by
  obtain ⟨c, rest, rfl, rfl⟩ := hc
  unfold Program.liftsFinal
  rw [lifts_of h hs, h]
  simp
theorem enter_of {P : Program} {ws : List (List Char)} (h : behindMainWord (wordsSigns P.initOrder.toList) = ws) (hs : stripLifts liftWords ws = ([], ws)) (hc : ∃ c rest, ws = c :: rest ∧ c = "cut".toList)
    (hl : P.laysLater = false) (hr : P.bearsReflect = false) (hd : P.doorRows = []) : P.mayEnter = true := by
  obtain ⟨c, rest, rfl, rfl⟩ := hc
  unfold Program.mayEnter
  rw [h]
  dsimp only
  rw [hs]
  simp [hl, hr, Program.doorFits, hd]
theorem lays_fact : Try.prog.laysLater = false := by kernel_rfl
theorem refl_fact : Try.prog.bearsReflect = false := by kernel_rfl
theorem door_fact : Try.prog.doorRows = [] := by kernel_rfl
theorem enter_fact : Try.prog.mayEnter = true := enter_of order_words order_strip order_cons lays_fact refl_fact door_fact
theorem final_fact : Try.prog.liftsFinal = false := final_of order_words order_strip order_cons
theorem make_fact : Try.prog.make = some .cut := make_of order_words order_cons
theorem own_fact : ownKnob Try.prog.godebug = none := by kernel_rfl
theorem laid_fact : laidOutB Try.prog = true := by kernel_rfl
theorem maps_fact : mapsRowed Try.prog = true := by kernel_rfl
theorem heard_fact : Try.prog.stopsHeard = true := by kernel_rfl
theorem keys_fact : Try.prog.plainKeys = false := by kernel_rfl
theorem stops_fact : Try.prog.stops = [] := by kernel_rfl
theorem knobs_fact : Try.prog.stopKnobs = [] := by kernel_rfl
end Go.Proofs.Ytdjndeleafhglaa
namespace Go.Proofs.Ytdjndeleafhglaa
open Go.RowKit Go.ChangeShapes Go.WideShapes Go.ChangeAt

/-- What came in: two sectors, and bytes. -/
structure SecIn (w : World) (x : Sec) (A : Option Addr) (c : Nat) : Prop where
  at_ : BytesAt w A x.body.length x.body
  cap : x.body.length ≤ c
  life : x.life < 18446744073709551616
  gen : x.gen < 18446744073709551616
  big : x.body.length ≤ maxLen
theorem SecIn.below {w w' : World} {x : Sec} {A : Option Addr} {c : Nat} (h : SecIn w x A c) (hb : Below w.heap.size w w') : SecIn w' x A c := ⟨h.at_.below hb, h.cap, h.life, h.gen, h.big⟩

theorem ofInts (zs : List Int) (h : ∀ n ∈ zs, 0 ≤ n ∧ n ≤ 255) : ∃ l : List UInt8, l.length = zs.length ∧ ∀ i : Nat, i < zs.length → ∃ b, l[i]? = some b ∧ (b.toNat : Int) = zs.getD i 0 := by
  refine ⟨zs.map fun n => UInt8.ofNat n.toNat, by simp, fun i hi => ⟨UInt8.ofNat (zs[i]).toNat, by simp [hi], ?_⟩⟩
  have := h zs[i] (List.getElem_mem hi)
  rw [UInt8.toNat_ofNat_of_lt' (by simp only [UInt8.size]; omega)]
  simp [List.getD, hi]
  omega

theorem opened_bytes {H : Type} {enc : TypeId × Value → H} {P : Program} {W : World} {t e : TypeId} {fuel : Nat} {cs : List Value} {x : DataW H × List MemPlace} (ht : P.underlying t = some (.slice e)) (he : P.underlying e = some (.int .u8)) (hc : P.cellsOf e = 1)
    (h : DataW.trod enc P W 0 (fun _ => true) true fuel t cs = some x) :
    ∃ (A : Option Addr) (n c : Nat) (l : List UInt8), cs = [.slice A n c] ∧ BytesAt W A n l ∧ n ≤ c ∧ n ≤ maxLen := by
  rcases open_ints ht he hc h with ⟨hcs, _⟩ | ⟨a, len, cap, zs, hcs, _, hl, hm, hz, _, hcell, hwf⟩
  · exact ⟨none, 0, 0, [], hcs, BytesAt.nil _, Nat.le_refl _, Nat.zero_le _⟩
  · simp only [if_true] at hz
    obtain ⟨l, hll, hlg⟩ := ofInts zs (fun n hn => bounds_u8 (hwf n hn))
    refine ⟨some a, len, cap, l.take len, hcs, ⟨by rw [List.length_take]; omega, fun hn => ?_⟩, hl, Nat.le_trans hl hm⟩
    obtain ⟨ab, ao, spot⟩ := a
    have hspot : spot = none := by simpa [Addr.add] using World.cell?_spot (hcell 0 (by omega))
    subst hspot
    refine ⟨ab, ao, rfl, fun j u hu => ?_⟩
    have hj : j < len := by have := (List.getElem?_eq_some_iff.1 hu).1; rw [bytesV_length, List.length_take] at this; omega
    obtain ⟨b, hb, hbz⟩ := hlg j (by omega)
    have hcj := hcell j (by omega)
    rw [Addr.add_mid] at hcj
    rw [hcj, ← hbz]
    simp only [bytesV, List.getElem?_map, List.getElem?_take, if_pos hj, hb, Option.map_some, Option.some.injEq] at hu
    rw [← hu]

theorem array5 {α : Type} {cs : Array α} (h : cs.size = 5) : ∃ c0 c1 c2 c3 c4, cs = #[c0, c1, c2, c3, c4] := by
  obtain ⟨l⟩ := cs
  match l, h with
  | [c0, c1, c2, c3, c4], _ => exact ⟨c0, c1, c2, c3, c4, rfl⟩
theorem list5 {α : Type} {cs : List α} (h : cs.length = 5) : ∃ c0 c1 c2 c3 c4, cs = [c0, c1, c2, c3, c4] := by
  match cs, h with
  | [c0, c1, c2, c3, c4], _ => exact ⟨c0, c1, c2, c3, c4, rfl⟩

theorem sec_cells : Try.prog.cellsOf 60 = 5 := by kernel_rfl
theorem sec_fields : ∃ f0 f1 f2 f3 f4 : Field, Try.prog.underlying 60 = some (.struct #[f0, f1, f2, f3, f4]) ∧ f0.type = 3 ∧ f1.type = 28 ∧ f2.type = 3 ∧ f3.type = 28 ∧ f4.type = 41 ∧
    f0.offset = 0 ∧ f1.offset = 1 ∧ f2.offset = 2 ∧ f3.offset = 3 ∧ f4.offset = 4 :=
  ⟨_, _, _, _, _, Try.underlying60, rfl, rfl, rfl, rfl, rfl, rfl, rfl, rfl, rfl, rfl⟩
theorem cells_int : Try.prog.cellsOf 3 = 1 := by kernel_rfl
theorem cells_u64 : Try.prog.cellsOf 28 = 1 := by kernel_rfl
theorem cells_u8 : Try.prog.cellsOf 5 = 1 := by kernel_rfl
theorem cells_bytes : Try.prog.cellsOf 41 = 1 := by kernel_rfl

/-- A sector's cells that came in. -/
theorem opened_sec {H : Type} {enc : TypeId × Value → H} {W : World} {fuel : Nat} {cs : List Value} {x : DataW H × List MemPlace} (h : DataW.trod enc Try.prog W 0 (fun _ => true) true fuel 60 cs = some x) :
    ∃ (s : Sec) (A : Option Addr) (c : Nat), cs = [.int .i64 s.kind, .int .u64 (s.life : Int), .int .i64 s.seq, .int .u64 (s.gen : Int), .slice A s.body.length c] ∧ SecIn W s A c := by
  obtain ⟨f0, f1, f2, f3, f4, hs, t0, t1, t2, t3, t4, o0, o1, o2, o3, o4⟩ := sec_fields
  obtain ⟨xs, n, _, rfl, hl, hlen, hf⟩ := DataW.trod_struct hs h
  rw [sec_cells] at hl
  obtain ⟨c0, c1, c2, c3, c4, rfl⟩ := list5 hl
  have h0 := hf 0 f0 rfl
  have h1 := hf 1 f1 rfl
  have h2 := hf 2 f2 rfl
  have h3 := hf 3 f3 rfl
  have h4 := hf 4 f4 rfl
  rw [t0, o0, cells_int] at h0
  rw [t1, o1, cells_u64] at h1
  rw [t2, o2, cells_int] at h2
  rw [t3, o3, cells_u64] at h3
  rw [t4, o4, cells_bytes] at h4
  have hx : ∀ i, i < 5 → ∃ y, xs[i]? = some y := fun i hi => ⟨_, List.getElem?_eq_getElem (by rw [hlen]; exact hi)⟩
  obtain ⟨y0, e0⟩ := hx 0 (by decide)
  obtain ⟨y1, e1⟩ := hx 1 (by decide)
  obtain ⟨y2, e2⟩ := hx 2 (by decide)
  obtain ⟨y3, e3⟩ := hx 3 (by decide)
  obtain ⟨y4, e4⟩ := hx 4 (by decide)
  rw [e0] at h0; rw [e1] at h1; rw [e2] at h2; rw [e3] at h3; rw [e4] at h4
  obtain ⟨n0, g0, _, _⟩ := DataW.trod_int Try.underlying3 h0
  obtain ⟨n1, g1, _, w1⟩ := DataW.trod_int Try.underlying28 h1
  obtain ⟨n2, g2, _, _⟩ := DataW.trod_int Try.underlying3 h2
  obtain ⟨n3, g3, _, w3⟩ := DataW.trod_int Try.underlying28 h3
  obtain ⟨A, m, c, l, g4, hb, hc, hbig⟩ := opened_bytes Try.underlying41 Try.underlying5 cells_u8 h4
  obtain rfl : c0 = .int .i64 n0 := by simpa using g0
  obtain rfl : c1 = .int .u64 n1 := by simpa using g1
  obtain rfl : c2 = .int .i64 n2 := by simpa using g2
  obtain rfl : c3 = .int .u64 n3 := by simpa using g3
  obtain rfl : c4 = .slice A m c := by simpa using g4
  have b1 := bounds_u64 w1
  have b3 := bounds_u64 w3
  have hl := hb.len
  subst hl
  refine ⟨⟨n0, n1.toNat, n2, n3.toNat, l⟩, A, c, ?_, hb, hc, by simp only; omega, by simp only; omega, hbig⟩
  simp only [List.cons.injEq, Value.int.injEq, true_and, and_true]
  omega
set_option maxRecDepth 100000 in
theorem opened_secV {H : Type} {enc : TypeId × Value → H} {W : World} {base : Nat} {v : Value} {d : DataW H} {p : List MemPlace} (hval : Value.okWide Try.prog W .any base 60 v) (h : DataW.Trod enc Try.prog W 0 (fun _ => true) true 60 v d p) :
    ∃ (s : Sec) (A : Option Addr) (c : Nat), v = secV s A c ∧ SecIn W s A c := by
  obtain ⟨f0, f1, f2, f3, f4, hs, _⟩ := sec_fields
  obtain ⟨cs, rfl, _⟩ := okWide_struct hs hval
  obtain ⟨fuel, hf⟩ := h
  obtain ⟨s, A, c, hcs, hin⟩ := opened_sec hf
  refine ⟨s, A, c, ?_, hin⟩
  have : cs.toList = _ := hcs
  unfold secV
  congr 1
  exact Array.toList_inj.1 this
set_option maxRecDepth 100000 in
theorem opened_bytesV {H : Type} {enc : TypeId × Value → H} {W : World} {base : Nat} {v : Value} {d : DataW H} {p : List MemPlace} (hval : Value.okWide Try.prog W .any base 41 v) (h : DataW.Trod enc Try.prog W 0 (fun _ => true) true 41 v d p) :
    ∃ (A : Option Addr) (n c : Nat) (l : List UInt8), v = .slice A n c ∧ BytesAt W A n l ∧ n ≤ c := by
  obtain ⟨a1, len, cap, rfl⟩ := okWide_slice Try.underlying41 hval
  obtain ⟨fuel, hf⟩ := h
  obtain ⟨A, n, c, l, hcs, hb, hc, _⟩ := opened_bytes Try.underlying41 Try.underlying5 cells_u8 hf
  refine ⟨A, n, c, l, ?_, hb, hc⟩
  simpa [Value.cells] using hcs

theorem cells_ints : Try.prog.cellsOf 29 = 1 := by kernel_rfl

theorem opened_ints_cells {H : Type} {enc : TypeId × Value → H} {P : Program} {W : World} {t e : TypeId} {fuel : Nat} {cs : List Value} {x : DataW H × List MemPlace} (ht : P.underlying t = some (.slice e)) (he : P.underlying e = some (.int .i64)) (hc : P.cellsOf e = 1)
    (h : DataW.trod enc P W 0 (fun _ => true) true fuel t cs = some x) :
    ∃ (A : Option Addr) (n c : Nat) (ks : List Int), cs = [.slice A n c] ∧ IntsAt W A n ks ∧ n ≤ c ∧ n ≤ maxLen ∧ (0 < n → ∀ g o, A = some ⟨g, o, none⟩ → g < W.heap.size) := by
  rcases open_ints ht he hc h with ⟨hcs, _⟩ | ⟨a, len, cap, zs, hcs, _, hl, hm, hz, _, hcell, _⟩
  · exact ⟨none, 0, 0, [], hcs, ⟨rfl, fun h => by omega⟩, Nat.le_refl _, Nat.zero_le _, fun h => by omega⟩
  · simp only [if_true] at hz
    have hat : 0 < len → ∃ g o, some a = some (⟨g, o, none⟩ : Addr) ∧ W.rangeAt g o (intsV (zs.take len)) := fun hn => by
      obtain ⟨ab, ao, spot⟩ := a
      have hspot : spot = none := by simpa [Addr.add] using World.cell?_spot (hcell 0 (by omega))
      subst hspot
      refine ⟨ab, ao, rfl, fun j u hu => ?_⟩
      have hj : j < len := by have := (List.getElem?_eq_some_iff.1 hu).1; rw [intsV_length, List.length_take] at this; omega
      have := hcell j (by omega)
      rw [Addr.add_mid] at this
      rw [this]
      simp only [intsV, List.getElem?_map, List.getElem?_take, if_pos hj, List.getElem?_eq_getElem (show j < zs.length by omega), Option.map_some, Option.some.injEq] at hu
      rw [← hu]
      simp [List.getD, List.getElem?_eq_getElem (show j < zs.length by omega)]
    refine ⟨some a, len, cap, zs.take len, hcs, ⟨by rw [List.length_take]; omega, hat⟩, hl, Nat.le_trans hl hm, fun hn g o hg => ?_⟩
    obtain ⟨g', o', hg', hr⟩ := hat hn
    rw [hg] at hg'
    injection hg' with hg'
    injection hg' with h1 h2
    subst h1
    exact rangeAt_lt hr (by rw [intsV_length, List.length_take]; omega)

theorem choose_list {α β : Type} (R : α → β → Prop) (l : List α) (h : ∀ x ∈ l, ∃ y, R x y) : ∃ m : List β, m.length = l.length ∧ ∀ (k : Nat) x, l[k]? = some x → ∃ y, m[k]? = some y ∧ R x y := by
  induction l with
  | nil => exact ⟨[], rfl, fun k x hx => by simp at hx⟩
  | cons a l ih =>
    obtain ⟨y, hy⟩ := h a List.mem_cons_self
    obtain ⟨m, hm, hr⟩ := ih (fun x hx => h x (List.mem_cons_of_mem _ hx))
    refine ⟨y :: m, by simp [hm], fun k x hx => ?_⟩
    cases k with
    | zero => obtain rfl : a = x := by simpa using hx
              exact ⟨y, rfl, hy⟩
    | succ k => exact hr k x (by simpa using hx)


/-- A row in memory, of elements that lie in sz cells each. -/
structure RowsAt (w : World) (A : Option Addr) (sz : Nat) (l : List (List Value)) : Prop where
  at_ : 0 < l.length → ∃ g o, A = some ⟨g, o, none⟩ ∧ ∀ (k : Nat) x, l[k]? = some x → w.rangeAt g (o + k * sz) x
/-- A slice that came in, of elements of which each is opened by 'he'. -/
theorem opened_slice {H : Type} {enc : TypeId × Value → H} {P : Program} {W : World} {α : Type} {t e : TypeId} (f : α → List Value) (R : α → Prop) (sz : Nat) (hsz : 0 < sz) (hf : ∀ a, (f a).length = sz)
    (ht : P.underlying t = some (.slice e)) (hc : P.cellsOf e = sz) (he : ∀ (fuel : Nat) (cs : List Value) (x : DataW H × List MemPlace), DataW.trod enc P W 0 (fun _ => true) true fuel e cs = some x → ∃ a, cs = f a ∧ R a)
    {fuel : Nat} {cs : List Value} {x : DataW H × List MemPlace} (h : DataW.trod enc P W 0 (fun _ => true) true fuel t cs = some x) :
    ∃ (A : Option Addr) (c : Nat) (l : List α), cs = [.slice A l.length c] ∧ RowsAt W A sz (l.map f) ∧ (∀ a ∈ l, R a) ∧ l.length ≤ c ∧ l.length ≤ maxLen := by
  rcases DataW.trod_slice ht h with ⟨hcs, _⟩ | ⟨a, len, cap, elems, rest, n, _, hcs, _, _, hl, hm, hlen, hel, _, _⟩
  · exact ⟨none, 0, [], hcs, ⟨fun h => by simp at h⟩, fun x hx => by simp at hx, Nat.le_refl _, Nat.zero_le _⟩
  · have hone : ∀ i, i < len → ∃ x : α, (∀ j u, (f x)[j]? = some u → W.cell? ((a.add (i * sz)).add j) = some u) ∧ R x := by
      intro i hi
      have hi2 := hel i hi
      rw [hc, List.getElem?_eq_getElem (by omega), Option.bind_eq_some_iff] at hi2
      obtain ⟨cs, hcs, ht⟩ := hi2
      obtain ⟨x, rfl, hx⟩ := he _ _ _ ht
      refine ⟨x, fun j u hu => ?_, hx⟩
      obtain ⟨q1, q2, q3⟩ := World.cells?_some hcs
      have hj : j < sz := by have := (List.getElem?_eq_some_iff.1 hu).1; rw [hf] at this; exact this
      rw [q3 j hj, hu]
    obtain ⟨l, hll, hr⟩ := choose_list (fun i (x : α) => (∀ j u, (f x)[j]? = some u → W.cell? ((a.add (i * sz)).add j) = some u) ∧ R x) (List.range len) (fun i hi => hone i (List.mem_range.1 hi))
    rw [List.length_range] at hll
    have hget : ∀ (k : Nat) x, l[k]? = some x → (∀ j u, (f x)[j]? = some u → W.cell? ((a.add (k * sz)).add j) = some u) ∧ R x := by
      intro k x hx
      have hk : k < len := by rw [← hll]; exact (List.getElem?_eq_some_iff.1 hx).1
      obtain ⟨y, hy, hR⟩ := hr k k (by rw [List.getElem?_range hk])
      rw [hx] at hy
      cases hy
      exact hR
    refine ⟨some a, cap, l, by rw [hll]; exact hcs, ⟨fun h0 => ?_⟩, fun x hx => ?_, by omega, by omega⟩
    · rw [List.length_map] at h0
      obtain ⟨x0, hx0⟩ : ∃ x, l[0]? = some x := ⟨_, List.getElem?_eq_getElem h0⟩
      obtain ⟨ab, ao, spot⟩ := a
      obtain ⟨v0, hv0⟩ : ∃ v, (f x0)[0]? = some v := ⟨_, List.getElem?_eq_getElem (by rw [hf]; exact hsz)⟩
      have h00 := (hget 0 x0 hx0).1 0 _ hv0
      have hspot : spot = none := by simpa [Addr.add] using World.cell?_spot h00
      subst hspot
      refine ⟨ab, ao, rfl, fun k x hx j u hu => ?_⟩
      rw [List.getElem?_map, Option.map_eq_some_iff] at hx
      obtain ⟨y, hy, rfl⟩ := hx
      have := (hget k y hy).1 j u hu
      rw [Addr.add_mid, Addr.add_mid] at this
      exact this
    · obtain ⟨k, hk⟩ := List.getElem?_of_mem hx
      exact (hget k x hk).2

end Go.Proofs.Ytdjndeleafhglaa
