/-
  The walk of disk.Restart.
-/
import Derived.Test.YtdjndeleafhglaaDsk7
namespace Go.Proofs.Ytdjndeleafhglaa
open Go.RowKit

/-- One that is pending, when the power comes back. -/
def stepR (ks : List Int) (torn : Int) (m : Nat) (D : DS) (x : Nat × List UInt8) (i : Nat) : DS :=
  if (i : Int) = torn then keepD D x.1 (x.2.take m ++ (D.kept x.1).drop m) else if wholeB ks i = true then keepD D x.1 x.2 else D
def restAll (ks : List Int) (torn : Int) (m : Nat) (D : DS) (l : List (Nat × List UInt8)) : DS := l.zipIdx.foldl (fun D x => stepR ks torn m D x.1 x.2) D
theorem restAll_snoc (ks : List Int) (torn : Int) (m : Nat) (D : DS) (l : List (Nat × List UInt8)) (x : Nat × List UInt8) : restAll ks torn m D (l ++ [x]) = stepR ks torn m (restAll ks torn m D l) x l.length := by
  unfold restAll
  rw [List.zipIdx_append, List.foldl_append]
  simp
theorem stepR_same (ks : List Int) (torn : Int) (m : Nat) (D : DS) (x : Nat × List UInt8) (i : Nat) :
    (stepR ks torn m D x i).n = D.n ∧ (stepR ks torn m D x i).pend = D.pend ∧ (stepR ks torn m D x i).hist.length ≤ D.hist.length + 1 ∧ (stepR ks torn m D x i).fuse = D.fuse ∧ (stepR ks torn m D x i).calls = D.calls ∧ (stepR ks torn m D x i).down = D.down := by
  unfold stepR
  split
  · simp [keepD]
  · split
    · simp [keepD]
    · simp
theorem restFold_same (ks : List Int) (torn : Int) (m : Nat) (l : List ((Nat × List UInt8) × Nat)) : ∀ D : DS,
    (l.foldl (fun D x => stepR ks torn m D x.1 x.2) D).n = D.n ∧ (l.foldl (fun D x => stepR ks torn m D x.1 x.2) D).pend = D.pend ∧ (l.foldl (fun D x => stepR ks torn m D x.1 x.2) D).hist.length ≤ D.hist.length + l.length ∧
      (l.foldl (fun D x => stepR ks torn m D x.1 x.2) D).fuse = D.fuse ∧ (l.foldl (fun D x => stepR ks torn m D x.1 x.2) D).calls = D.calls ∧ (l.foldl (fun D x => stepR ks torn m D x.1 x.2) D).down = D.down := by
  induction l with
  | nil => intro D; simp
  | cons x l ih =>
    intro D
    obtain ⟨h1, h2, h3, h4, h5, h6⟩ := ih (stepR ks torn m D x.1 x.2)
    obtain ⟨g1, g2, g3, g4, g5, g6⟩ := stepR_same ks torn m D x.1 x.2
    simp only [List.foldl_cons, List.length_cons]
    exact ⟨h1.trans g1, h2.trans g2, by omega, h4.trans g4, h5.trans g5, h6.trans g6⟩
theorem restAll_same (ks : List Int) (torn : Int) (m : Nat) (l : List (Nat × List UInt8)) (D : DS) :
    (restAll ks torn m D l).n = D.n ∧ (restAll ks torn m D l).pend = D.pend ∧ (restAll ks torn m D l).hist.length ≤ D.hist.length + l.length ∧ (restAll ks torn m D l).fuse = D.fuse ∧ (restAll ks torn m D l).calls = D.calls ∧ (restAll ks torn m D l).down = D.down := by
  have := restFold_same ks torn m l.zipIdx D
  rw [List.length_zipIdx] at this
  exact this

/-- The power comes back. -/
def restD (D : DS) (ks : List Int) (torn at_ : Int) : DS := { restAll ks torn (at_ % 513).toNat D D.pend with pend := [], down := false, fuse := -1 }

theorem bytesV_take (l : List UInt8) (n : Nat) : bytesV (l.take n) = (bytesV l).take n := by simp [bytesV, List.map_take]
theorem bytesV_drop (l : List UInt8) (n : Nat) : bytesV (l.drop n) = (bytesV l).drop n := by simp [bytesV, List.map_drop]
theorem bytesV_append (l m : List UInt8) : bytesV (l ++ m) = bytesV l ++ bytesV m := by simp [bytesV]

/-- The head of a fresh block is written. -/
theorem setCells_alloc_head (w : World) (t : TypeId) (vs : List Value) (C : List Value) (h : vs.length ≤ C.length) : (w.alloc (.cells C.toArray t)).setCells w.heap.size 0 vs = w.alloc (.cells (vs ++ C.drop vs.length).toArray t) := by
  rw [setCells_alloc_go]
  congr 2
  have key := foldl_set 0 vs 0 C.toArray (by simpa using h)
  simp only [Nat.zero_add, List.take_zero, List.nil_append] at key
  exact Array.ext' key

/-- copy onto the head of a fresh block. -/
theorem wp_copy_new {P : Program} {w : World} {o : Oper} {a : Act} {K : Act → World → Prop} {Q : Exit → Act → World → Prop} (x y : Operand) (dT sT : TypeId)
    (ho : o.op = .call { callee := .builtin .copy, args := #[x, y], argTypes := #[dT, sT] }) (elem : TypeId) (hu : P.underlying dT = some (.slice elem)) (hs : (P.info? elem).map (·.size) = some 1)
    (C cs : List Value) (t : TypeId) (dLen dCap sLen sCap : Nat) (ad : Addr) (hx : a.eval x = .slice (some ⟨w.heap.size, 0, none⟩) dLen dCap) (hy : a.eval y = .slice (some ad) sLen sCap) (hn : cs.length = Nat.min sLen dLen)
    (hle : cs.length ≤ C.length) (hsrc : ∀ j v, cs[j]? = some v → (w.alloc (.cells C.toArray t)).cell? (ad.add j) = some v) (h1 : ∀ v ∈ cs, v.oneCell' = true)
    (h : K (a.put o.dst (goInt cs.length)) (w.alloc (.cells (cs ++ C.drop cs.length).toArray t))) : o.wp P a (w.alloc (.cells C.toArray t)) K Q := by
  have hth := there_of (heap_alloc_new w (.cells C.toArray t)) (o := 0) (n := cs.length) (by simpa using hle)
  have hr := run_copy_cells (P := P) (w.alloc (.cells C.toArray t)) dT sT o.type elem w.heap.size 0 dLen dCap ad sLen sCap cs hu hs hn hsrc (fun j hj => by simpa using (hth j hj).1) (fun j hj => by simp) h1
  rw [setCells_alloc_head w t cs C hle] at hr
  unfold Oper.wp execOp
  simp only [ho, resolve, invoke, builtin, Sem.run_bind, Sem.run_pure, Result.andThen_ok, List.map_toArray, List.map_cons, List.map_nil, hx, hy, hr]
  exact h

theorem IntsAt.keep0 {w w' : World} {A : Option Addr} {n : Nat} {l : List Int} (h : IntsAt w A n l) (hb : 0 < n → ∀ g o, A = some ⟨g, o, none⟩ → w'.heap[g]? = w.heap[g]?) : IntsAt w' A n l :=
  ⟨h.len, fun hn => by
    obtain ⟨g, o, hA, hr⟩ := h.at_ hn
    exact ⟨g, o, hA, rangeAt_keep hr (hb hn g o hA)⟩⟩
theorem size_byte : (Try.prog.info? 5).map (·.size) = some 1 := by kernel_rfl
theorem run_storeCells_drew {P : Program} (w : World) (t : TypeId) (V : List Value) (C : Array Value) (hC : C.size = V.length) (h1 : ∀ v ∈ V, v.oneCell' = true) :
    (storeCells ⟨w.heap.size, 0, none⟩ V).run P (w.alloc (.cells C t)).drew = .ok () (w.alloc (.cells V.toArray t)).drew := run_storeCells_fresh w.drew t V C hC h1

section
variable {w : World} {d : Nat} {D : DS} {S : Nat → Prop} {bk : Nat} {pv av : Value} {H : List (Nat × List UInt8 × Nat)}

theorem Restart_nil (A : Option Addr) (n c : Nat) (torn at_ : Int) (w : World) :
    Calls Try.prog 51 #[.pointer none, .slice A n c, .int .i64 torn, .int .i64 at_] w fun e w' => e = .returned (.tuple #[]) ∧ Below w.heap.size w w' := by
  go_enter Try.func51, Try.ntmps51
  go_wp2_with fail
  refine bodyPost_ret (results_none rfl _ _ _) rfl ?_
  exact ⟨rfl, by ((repeat (first | (with_reducible exact Bnil _) | (with_reducible assumption) | (with_reducible refine Bset ?_ ?_ _) | (with_reducible refine Bnew ?_ _) | (with_reducible refine Bdrew ?_) | (with_reducible refine Bthen ?_ (by assumption)))); all_goals (simp; try omega))⟩

set_option maxRecDepth 100000 in
set_option maxHeartbeats 4000000 in
theorem Restart_any (A : Option Addr) (n c : Nat) (torn at_ : Int) (ks : List Int) (h : DiskP w d D S bk pv av H) (hks : IntsAt w A n ks) (hkS : 0 < n → ∀ g o, A = some ⟨g, o, none⟩ → ¬ S g ∧ g < w.heap.size) (hkb : n ≤ 1000000)
    (hsm : 2 * D.pend.length + D.hist.length ≤ 1000000) :
    Calls Try.prog 51 #[.pointer (some ⟨d, 0, none⟩), .slice A n c, .int .i64 torn, .int .i64 at_] w fun e w' => e = .returned (.tuple #[]) ∧
      ∃ S' pv' av' H', DiskP w' d (restD D ks torn at_) S' bk pv' av' H' ∧ Frame S w w' ∧ ∀ k, S' k → S k ∨ w.heap.size ≤ k := by
  obtain ⟨c0, c1, c2, c3, c4, c5, hf⟩ := h.cells
  have hdl := blk_lt h.hdr
  obtain ⟨r, hr⟩ : ∃ r, r = at_.tmod 513 := ⟨_, rfl⟩
  have hrb : -513 < r ∧ r < 513 ∧ (r + 513).tmod 513 = at_ % 513 := by
    have h1 := Int.tmod_lt_of_pos at_ (show (0 : Int) < 513 by decide)
    have h2 : -513 < at_.tmod 513 := Int.lt_tmod_of_pos at_ (show (0 : Int) < 513 by decide)
    have h3 := Int.mul_tdiv_add_tmod at_ 513
    rw [← hr] at h1 h2 h3
    refine ⟨h2, h1, ?_⟩
    rw [Int.tmod_eq_emod_of_nonneg (by omega)]
    omega
  obtain ⟨m, hm⟩ : ∃ m : Nat, m = (at_ % 513).toNat := ⟨_, rfl⟩
  have e1 : IntKind.i64.wrap (r + 513) = r + 513 := IntWalk.i64_in _ (by omega)
  have e2 : (r + 513).tmod 513 = (m : Int) := by omega
  have hmb : m ≤ 512 := by omega
  have hr' : at_.tmod 513 = r := hr.symm
  obtain ⟨B, cap, rfl, hB⟩ : ∃ B cap, pv = .slice B D.pend.length cap ∧ (0 < D.pend.length → ∃ g, B = some ⟨g, 0, none⟩) := by
    rcases h.pend.2 with ⟨rfl, h0⟩ | ⟨g, cap, _, rfl, _⟩
    · exact ⟨none, 0, by rw [h0], fun h => by omega⟩
    · exact ⟨_, cap, rfl, fun _ => ⟨g, rfl⟩⟩
  have hmf : ∀ (fn : Fn) (first cap : Array Value) (w : World), (Instr.makeFunc fn first cap).run Try.prog w = .ok (.func fn first cap) w := fun _ _ _ _ => rfl
  have Hh := Lib.hid h; clear h
  have Hks := Lib.hid hks; clear hks
  have HkS := Lib.hid hkS; clear hkS
  have HB := Lib.hid hB; clear hB
  have Hm := Lib.hid hm; clear hm
  clear hr hrb
  go_enter Try.func51, Try.ntmps51
  go_wp2_with fail
  clear hmf hr' e1 e2 c0 c1 c2 c3 c4 c5 hf
  have hS0 : ¬ S w.heap.size := fun hs => by have := Hh.out.ltS _ hs; omega
  have hx0 : (w.alloc (.cells #[.slice A n c] 29)).cell? ⟨w.heap.size, 0, none⟩ = some (.slice A n c) := by
    rw [cell_of_row _ _ _ _ _ _ (heap_alloc_new w _)]; rfl
  have hsz1 : (w.alloc (.cells #[.slice A n c] 29)).heap.size = w.heap.size + 1 := by simp
  have hb1 : Below w.heap.size w (w.alloc (.cells #[.slice A n c] 29)) := Bbox _ _
  have H1 := Lib.hid (Hh.out.below hb1)
  have hf1 : Frame S w (w.alloc (.cells #[.slice A n c] 29)) := Frame.of_below hb1
  have Hx0 := Lib.hid hx0; clear hx0
  generalize (w.alloc (.cells #[.slice A n c] 29)) = w1 at H1 Hx0 hsz1 hb1 hf1 ⊢
  go_loopw [25] (fun i wr => ∃ k : Nat, k ≤ D.pend.length ∧ i = .int .i64 k ∧ ∃ S' av' H', DiskP wr d (restAll ks torn m D (D.pend.take k)) S' bk (.slice B D.pend.length cap) av' H' ∧ Frame S w1 wr ∧ ∀ j, S' j → S j ∨ w1.heap.size ≤ j) (fun i _ => D.pend.length - (intOf i).toNat)
  case atStart => exact ⟨0, by omega, rfl, S, av, H, H1.out, Frame.refl _ _, fun j hj => .inl hj⟩
  case round =>
    obtain ⟨k, hk, rfl, S', av', H', h2, hfr, hSS⟩ := hrel
    obtain ⟨kn, kp, kh, kf, kc, kd⟩ := restAll_same ks torn m (D.pend.take k) D
    by_cases hlt : k < D.pend.length
    · obtain ⟨g, rfl⟩ := HB.out (by omega)
      obtain ⟨⟨q, b⟩, hqb⟩ : ∃ x, D.pend[k]? = some x := ⟨_, List.getElem?_eq_getElem hlt⟩
      have hmem : (q, b) ∈ (restAll ks torn m D (D.pend.take k)).pend := by rw [kp]; exact List.mem_of_getElem? hqb
      obtain ⟨hqn, hbl⟩ := h2.plen _ hmem
      have hown := h2.pend
      rw [kp] at hown
      have hrg := pend_at hown (fun y hy => (h2.plen y (by rw [kp]; exact hy)).2) rfl k (q, b) hqb
      simp only at hrg hqn hbl
      have hlen : (bytesV b).length = 512 := by rw [bytesV_length, hbl]
      have hszU : (Try.prog.info? 177).map (·.size) = some (.int .i64 (q : Int) :: bytesV b : List Value).length := by
        obtain ⟨i1, hi1, _, hi1s, _⟩ := info_wait2
        rw [hi1, List.length_cons, hlen]; simp [hi1s]
      have honeU : ∀ v ∈ (.int .i64 (q : Int) :: bytesV b : List Value), v.oneCell' = true := List.forall_mem_cons.2 ⟨rfl, bytesV_one b⟩
      have hszV : (Try.prog.info? 175).map (·.size) = some (bytesV b).length := by rw [hlen]; exact size_block
      obtain ⟨U, hU⟩ : ∃ U : List Value, U = .int .i64 (q : Int) :: bytesV b := ⟨_, rfl⟩
      have hUl : U.length = 513 := by rw [hU, List.length_cons, hlen]
      rw [← hU] at hrg hszU honeU
      have hkn : (k : Int) < (D.pend.length : Int) := by omega
      have hD5 : stepR ks torn m (restAll ks torn m D (D.pend.take k)) (q, b) k = restAll ks torn m D (D.pend.take (k + 1)) := by
        rw [List.take_add_one, hqb, Option.toList_some, restAll_snoc, List.length_take, Nat.min_eq_left hk]
      have hcellq : (wr.alloc (.cells U.toArray 177)).cell? ⟨wr.heap.size, 0, none⟩ = some (.int .i64 (q : Int)) := by
        rw [cell_of_row _ _ _ _ _ _ (heap_alloc_new wr _), hU]; simp
      have hrg2 : (wr.alloc (.cells U.toArray 177)).rangeAt wr.heap.size 1 (bytesV b) := fun j v hv => by
        rw [cell_of_row _ _ _ _ _ _ (heap_alloc_new wr _), hU]
        simpa [Nat.add_comm 1 j] using hv
      have h3 := h2.below (Bbox wr (.cells U.toArray 177))
      have hfr3 := hfr.alloc (.cells U.toArray 177)
      have hsz4 : wr.heap.size < (wr.alloc (.cells U.toArray 177)).heap.size := by simp
      have hzr := hfr.size
      have hsm5 : (restAll ks torn m D (D.pend.take k)).pend.length + (restAll ks torn m D (D.pend.take k)).hist.length + 1 ≤ 1000000 := by
        rw [kp]; rw [List.length_take] at kh; omega
      have HD5 := Lib.hid hD5; clear hD5
      have Hqb := Lib.hid hqb; clear hqb
      have HUl := Lib.hid hUl; clear hUl
      have Hrg := Lib.hid hrg; clear hrg
      have HszU := Lib.hid hszU; clear hszU
      have HszV := Lib.hid hszV; clear hszV
      have HoneU := Lib.hid honeU; clear honeU
      have HU := Lib.hid hU; clear hU
      have Hlen := Lib.hid hlen; clear hlen
      have Hbl := Lib.hid hbl; clear hbl
      have Hrg2 := Lib.hid hrg2; clear hrg2
      have H3 := Lib.hid h3; clear h3 h2 hown hmem
      have hrel5 : ∀ (w5 : World) (S5 : Nat → Prop) (av5 : Value) (H5 : List (Nat × List UInt8 × Nat)) (D5 : DS), D5 = restAll ks torn m D (D.pend.take (k + 1)) → DiskP w5 d D5 S5 bk (.slice (some ⟨g, 0, none⟩) D.pend.length cap) av5 H5 → Frame S' (wr.alloc (.cells U.toArray 177)) w5 → (∀ j, S5 j → S' j ∨ (wr.alloc (.cells U.toArray 177)).heap.size ≤ j) →
          ∃ S' av' H', DiskP w5 d (restAll ks torn m D (D.pend.take (k + 1))) S' bk (.slice (some ⟨g, 0, none⟩) D.pend.length cap) av' H' ∧ Frame S w1 w5 ∧ ∀ j, S' j → S j ∨ w1.heap.size ≤ j := fun w5 S5 av5 H5 D5 hD h5 hf5 hS5 => by
        subst hD
        exact ⟨S5, av5, H5, h5, hfr3.trans hf5 hSS, fun j hj => by
          rcases hS5 j hj with hj | hj
          · exact hSS j hj
          · exact .inr (by omega)⟩
      have Hrel5 := Lib.hid hrel5; clear hrel5
      go_wp2_with fail
      refine wp_load_mid 177 _ rfl g (k * 513) rfl U _ Hrg.out Try.underlying177 rfl HszU.out ?_
      go_wp2_with fail
      rw [run_storeCells_fresh wr _ U _ (by rw [HUl.out]; exact zero_wait_size) HoneU.out]
      have hS'x : ¬ S' w.heap.size := fun hs => by
        rcases hSS _ hs with h1 | h1
        · exact hS0 h1
        · omega
      have hcx : (wr.alloc (.cells U.toArray 177)).cell? ⟨w.heap.size, 0, none⟩ = some (.slice A n c) :=
        (World.cell?_of_block (hfr3.block w.heap.size (by omega) hS0)).trans Hx0.out
      have hks3 : IntsAt (wr.alloc (.cells U.toArray 177)) A n ks := (Hks.out.keep0 (w' := w1) fun hn g o hA => hb1.block g (HkS.out hn g o hA).2).keep0 fun hn g o hA => hfr3.block g (by have := (HkS.out hn g o hA).2; omega) (HkS.out hn g o hA).1
      have Hks3 := Lib.hid hks3; clear hks3
      obtain ⟨wr2, hwr2⟩ : ∃ wr2, wr2 = wr.alloc (.cells U.toArray 177) := ⟨_, rfl⟩
      rw [← hwr2] at hcellq Hrg2 hfr3 H3 hsz4 Hrel5 hcx Hks3 ⊢
      clear hwr2
      obtain ⟨c0, c1, c2, c3, c4, c5, hf⟩ := H3.out.cells
      clear c1 c2 c3 c4 c5 hf
      by_cases ht : (k : Int) = torn
      · have ht1 : ((k : Int) == torn) = true := by simpa using ht
        have ht2 : decide ((k : Int) = torn) = true := by simpa using ht
        have Ht := Lib.hid ht; clear ht
        go_wp2_with fail
        have hklen := H3.out.klen q hqn
        have hKl : (bytesV ((restAll ks torn m D (D.pend.take k)).kept q)).length = 512 := by rw [bytesV_length, hklen]
        have hKr := H3.out.kept q hqn
        have hK1 := bytesV_one ((restAll ks torn m D (D.pend.take k)).kept q)
        have hszK : (Try.prog.info? 175).map (·.size) = some (bytesV ((restAll ks torn m D (D.pend.take k)).kept q)).length := by rw [hKl]; exact size_block
        obtain ⟨K0, hK0⟩ : ∃ K0, K0 = bytesV ((restAll ks torn m D (D.pend.take k)).kept q) := ⟨_, rfl⟩
        rw [← hK0] at hKl hKr hK1 hszK
        have HK0 := Lib.hid hK0; clear hK0
        have HKl := Lib.hid hKl; clear hKl
        have HK1 := Lib.hid hK1; clear hK1
        have HszK := Lib.hid hszK; clear hszK
        have Hklen := Lib.hid hklen; clear hklen
        have hqlt : (q : Int) < (D.n : Int) := by rw [kn] at hqn; omega
        rw [kn] at c0
        refine wp_region_in (fun w' => w'.cell? ⟨d, 0, none⟩ = some (.slice (some ⟨bk, 0, none⟩) D.n D.n) ∧ w'.cell? ⟨wr.heap.size, 0, none⟩ = some (.int .i64 (q : Int)) ∧ w'.rangeAt bk (q * 512) K0) [(0, true), (1, true), (2, true), (3, true), (4, true), (5, true), (6, true), (7, true), (8, false), (9, false)] (by kernel_rfl) (by kernel_rfl) (fun _ _ _ _ _ h => h) ⟨c0, hcellq, hKr⟩ (fun hne => ?_)
        have hs0 : ∀ x : InS (fun w' => w'.cell? ⟨d, 0, none⟩ = some (.slice (some ⟨bk, 0, none⟩) D.n D.n) ∧ w'.cell? ⟨wr.heap.size, 0, none⟩ = some (.int .i64 (q : Int)) ∧ w'.rangeAt bk (q * 512) K0), x.w.cell? ⟨d, 0, none⟩ = some (.slice (some ⟨bk, 0, none⟩) D.n D.n) := fun x => x.h.1
        have hs1 : ∀ x : InS (fun w' => w'.cell? ⟨d, 0, none⟩ = some (.slice (some ⟨bk, 0, none⟩) D.n D.n) ∧ w'.cell? ⟨wr.heap.size, 0, none⟩ = some (.int .i64 (q : Int)) ∧ w'.rangeAt bk (q * 512) K0), x.w.cell? ⟨wr.heap.size, 0, none⟩ = some (.int .i64 (q : Int)) := fun x => x.h.2.1
        simp only [permOps, List.map_cons, List.map_nil, List.getD_cons_zero, List.getD_cons_succ]
        (iterate 7 ((with_reducible refine wpPerm_F ?_); intro K hK; go_simp; refine hK _ _ ?_; clear hK K))
        refine wpPerm_F1 rfl _ (okVal_load 175 _ rfl bk (q * 512) rfl K0 _ (fun w' ⟨x, hx⟩ => by rw [hx]; exact x.h.2.2) Try.underlying175 rfl HszK.out) ?_
        (with_reducible refine wpPerm_E rfl ?_); intro K hK
        go_wp2_with fail
        have hb2A : Below wr2.heap.size wr2 (wr2.alloc (.cells Try.zeroCells175 175)).drew := (Bbox _ _).drew
        refine ⟨⟨⟨_, (hb2A.cell (p := ⟨d, 0, none⟩) (blk_lt H3.out.hdr)).trans c0, (hb2A.cell (p := ⟨wr.heap.size, 0, none⟩) hsz4).trans hcellq, rangeAt_keep hKr (hb2A.block bk (H3.out.ltS bk H3.out.ownS.2.1))⟩, rfl⟩, ?_⟩
        (with_reducible refine wpPerm_L rfl ?_); intro K hK
        go_simp
        rw [run_storeCells_drew wr2 _ K0 _ (by rw [HKl.out]; exact zero_block_size) HK1.out]
        clear hs0 hs1 hne hb2A
        have hmI : (m : Int) ≤ 512 := by omega
        go_wp2_with fail
        refine wp_region_in (fun _ => True) [(0, true), (1, true), (2, true), (3, true), (4, false)] (by kernel_rfl) (by kernel_rfl) (fun _ _ _ _ _ h => h) trivial (fun hne => ?_)
        simp only [permOps, List.map_cons, List.map_nil, List.getD_cons_zero, List.getD_cons_succ]
        (iterate 4 ((with_reducible refine wpPerm_F ?_); intro K hK; go_simp; refine hK _ _ ?_; clear hK K))
        (with_reducible refine wpPerm_L rfl ?_); intro K hK
        have hcsl : ((bytesV b).take m).length = m := by rw [List.length_take, Hlen.out]; omega
        refine wp_copy_new (w := wr2.drew.drew) _ _ 41 41 rfl 5 Try.underlying41 ?c1 K0 ((bytesV b).take m) 175 m 512 512 512 ⟨wr.heap.size, 1, none⟩ ?c2 ?c3 ?c4 ?c5 ?c6 ?c7 ?_
        case c1 => exact size_byte
        case c2 => rfl
        case c3 => rfl
        case c4 => rw [hcsl]; exact (Nat.min_eq_right hmb).symm
        case c5 => rw [hcsl, HKl.out]; exact hmb
        case c6 =>
          intro j v hv
          rw [Addr.add_mid]
          have hv2 : (bytesV b)[j]? = some v := by
            rw [List.getElem?_take] at hv
            split at hv
            · exact hv
            · simp at hv
          exact (World.cell?_of_block (w := wr2) (Below.heap_alloc _ _ _ hsz4)).trans (Hrg2.out j v hv2)
        case c7 => exact fun v hv => bytesV_one b v (List.mem_of_mem_take hv)
        obtain ⟨bt, hbt⟩ : ∃ bt, bt = b.take m ++ ((restAll ks torn m D (D.pend.take k)).kept q).drop m := ⟨_, rfl⟩
        have hbtl : bt.length = 512 := by rw [hbt, List.length_append, List.length_take, List.length_drop, Hbl.out, Hklen.out]; omega
        have hX : (bytesV b).take m ++ K0.drop ((bytesV b).take m).length = bytesV bt := by rw [hcsl, HK0.out, hbt, bytesV_append, bytesV_take, bytesV_drop]
        rw [hX]
        have hb4 : Below wr2.heap.size wr2 (wr2.drew.drew.alloc (.cells (bytesV bt).toArray 175)) := Bnew (Bdrew (Bdrew (Bnil wr2))) _
        have hnew4 : (wr2.drew.drew.alloc (.cells (bytesV bt).toArray 175)).rangeAt wr2.heap.size 0 (bytesV bt) := fun j v hv => by
          have := cell_of_row (wr2.drew.drew.alloc (.cells (bytesV bt).toArray 175)) wr2.heap.size (0 + j) _ _ _ (heap_alloc_new wr2.drew.drew _)
          rw [this]; simpa using hv
        have hst : stepR ks torn m (restAll ks torn m D (D.pend.take k)) (q, b) k = keepD (restAll ks torn m D (D.pend.take k)) q bt := by
          unfold stepR; rw [if_pos Ht.out, hbt]
        have hszT : (Try.prog.info? 175).map (·.size) = some (bytesV bt).length := by rw [bytesV_length, hbtl]; exact size_block
        generalize (wr2.drew.drew.alloc (.cells (bytesV bt).toArray 175)) = w4 at hb4 hnew4 ⊢
        have hcellq4 := (hb4.cell (p := ⟨wr.heap.size, 0, none⟩) hsz4).trans hcellq
        have h4 := H3.out.below hb4
        have hfr4 : Frame S' wr2 w4 := Frame.of_below hb4
        have hz4 := hb4.size
        have hk3 := keep_any q bt h4 hqn hbtl hsm5
        have Hk3 := Lib.hid hk3; clear hk3
        have Hst := Lib.hid hst; clear hst
        have H4 := Lib.hid h4; clear h4
        have Hnew4 := Lib.hid hnew4; clear hnew4
        have HszT := Lib.hid hszT; clear hszT
        clear hX hbt hbtl hcsl hb4 c0 hcellq hcx hne
        (refine hK _ _ ?_; clear hK K)
        go_wp2_with fail
        refine wp_load_mid 175 _ rfl wr2.heap.size 0 rfl (bytesV bt) _ Hnew4.out Try.underlying175 rfl HszT.out ?_
        go_wp2_with fail
        refine Hk3.out.mono ?_
        rintro e w5 ⟨rfl, S5, av5, H5, h5, hf5, hS5⟩
        have hrel6 := Hrel5.out w5 S5 av5 H5 _ (Hst.out.symm.trans HD5.out) h5 (hfr4.trans hf5 (fun j hj => .inl hj)) (fun j hj => by
          rcases hS5 j hj with hj | hj
          · exact .inl hj
          · exact .inr (by omega))
        clear h5 hf5 hS5 hfr4
        go_wp2_with fail
        go_roundw
        case rel => exact ⟨k + 1, by omega, by go_num, hrel6⟩
        case measure => simp [intOf]; omega
      · have ht1 : ((k : Int) == torn) = false := by simpa using ht
        have ht2 : decide ((k : Int) = torn) = false := by simpa using ht
        go_wp2_with fail
        refine (whole_any k w.heap.size n c A ks hcx Hks3.out hkb).mono ?_
        rintro e w4 ⟨rfl, hb4⟩
        have hcellq4 := (hb4.cell (p := ⟨wr.heap.size, 0, none⟩) hsz4).trans hcellq
        have hrg4 : w4.rangeAt wr.heap.size 1 (bytesV b) := rangeAt_keep Hrg2.out (hb4.block _ hsz4)
        have h4 := H3.out.below hb4
        have hfr4 : Frame S' wr2 w4 := Frame.of_below hb4
        have hz4 := hb4.size
        have Hrg4 := Lib.hid hrg4; clear hrg4
        have hst : stepR ks torn m (restAll ks torn m D (D.pend.take k)) (q, b) k = if wholeB ks k = true then keepD (restAll ks torn m D (D.pend.take k)) q b else restAll ks torn m D (D.pend.take k) := by
          unfold stepR; rw [if_neg ht]
        clear c0 hcellq hcx hb4
        by_cases hw : wholeB ks k = true
        · rw [if_pos hw] at hst
          have hk3 := keep_any q b h4 hqn Hbl.out hsm5
          have Hk3 := Lib.hid hk3; clear hk3
          have Hst := Lib.hid hst; clear hst
          have H4 := Lib.hid h4; clear h4
          go_wp2_with fail
          refine wp_load_mid 175 _ rfl wr.heap.size 1 rfl (bytesV b) _ Hrg4.out Try.underlying175 rfl HszV.out ?_
          go_wp2_with fail
          refine Hk3.out.mono ?_
          rintro e w5 ⟨rfl, S5, av5, H5, h5, hf5, hS5⟩
          have hrel6 := Hrel5.out w5 S5 av5 H5 _ (Hst.out.symm.trans HD5.out) h5 (hfr4.trans hf5 (fun j hj => .inl hj)) (fun j hj => by
            rcases hS5 j hj with hj | hj
            · exact .inl hj
            · exact .inr (by omega))
          clear h5 hf5 hS5 hfr4
          go_wp2_with fail
          go_roundw
          case rel => exact ⟨k + 1, by omega, by go_num, hrel6⟩
          case measure => simp [intOf]; omega
        · have hwf : wholeB ks k = false := by simpa using hw
          rw [if_neg hw] at hst
          have hrel6 := Hrel5.out w4 S' av' H' _ (hst.symm.trans HD5.out) h4 hfr4 (fun j hj => .inl hj)
          clear hst h4 hfr4
          go_wp2_with fail
          go_roundw
          case rel => exact ⟨k + 1, by omega, by go_num, hrel6⟩
          case measure => simp [intOf]; omega
    · have hkl : D.pend.take k = D.pend := List.take_of_length_le (by omega)
      rw [hkl] at h2
      have hkn : ¬ (k : Int) < (D.pend.length : Int) := by omega
      obtain ⟨c0, c1, c2, c3, c4, c5, hf⟩ := h2.cells
      have H2 := Lib.hid h2; clear h2
      clear c0 c2 c4
      go_wp2_with fail
      go_end0
      have hw2 := H2.out.wiped
      have h5 : DiskP (((wr.setCell ⟨d, 1, none⟩ (.slice none 0 0)).setCell ⟨d, 5, none⟩ (.bool false)).setCell ⟨d, 3, none⟩ (.int .i64 (-1))) d (restD D ks torn at_) S' bk (.slice none 0 0) av' H' := by
        unfold restD
        rw [← Hm.out]
        refine hw2.turn rfl rfl rfl rfl ⟨hw2.small.2.2.1, show (-1 : Int) ≤ -1 by decide, show (-1 : Int) ≤ 9223372036854775807 by decide⟩ (blk_set (blk_set hw2.hdr 5 _) 3 _) (fun k hk => ?_) (by simp only [size_set])
        rw [Below.heap_setCell _ _ _ _ (by simpa using hk), Below.heap_setCell _ _ _ _ (by simpa using hk)]
      refine ⟨rfl, S', ⟨_, av', H', h5⟩, ?_, fun j hj => ?_⟩
      · exact hf1.trans (((hfr.setCell (hSS d H2.out.ownS.1) _).setCell (hSS d H2.out.ownS.1) _).setCell (hSS d H2.out.ownS.1) _) (fun j hj => .inl hj)
      · rcases hSS j hj with hj | hj
        · exact .inl hj
        · exact .inr (by omega)

end
end Go.Proofs.Ytdjndeleafhglaa
