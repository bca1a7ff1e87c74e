/-
  The walk of disk.Read.
  disk.Restart: what of the pending is kept whole (the closure), and what is torn.
  The walk of disk.Restart.
  A disk's calls, each in one contract for every case; and what the calls leave, in numbers.
  Numbers as bytes, sums, and what stands in a sector: plain lists, no program.
  The walks of the package num that the layers above use: Put, Pad, Get.
  Sums of terms, and what is read of a sector's bytes by them: plain lists, no program.
  The document's own small words: Mod, Same, Join; and the law's full.
  Bytes in memory: rows of the call's own, and what is appended to them.
  The walks of the package crc, of mark, and of sector.right and sector.none.
  Bytes: are they the same, are they blank; blank ones.
-/
import Derived.WalkMore
import Derived.Test.YtdjndeleafhglaaM1
import Derived.Deep.AppendLies
import Derived.Lib.SlBytesConst
import Derived.Lib.SlBytesRow
import Derived.Laws.BytesString
namespace Go.Proofs.Ytdjndeleafhglaa
open Go.RowKit Go.Shelf

attribute [local go_sem] Oper.semAt_some

/-- What a read finds: the newest wait at the place, else what is kept. -/
def readD (D : DS) (p : Nat) : List UInt8 := ((D.pend.reverse.find? fun x => x.1 == p).map (·.2)).getD (D.kept p)

theorem readD_at {D : DS} {p : Nat} {ini : List (Nat × List UInt8)} {b : List UInt8} (hp : (ini ++ [(p, b)]) <+: D.pend.reverse) (hi : ∀ y ∈ ini, y.1 ≠ p) : readD D p = b := by
  obtain ⟨t, ht⟩ := hp
  unfold readD
  rw [← ht, List.append_assoc, List.find?_append, List.find?_eq_none.2 (fun y hy => by simpa using hi y hy)]
  simp
theorem readD_none {D : DS} {p : Nat} (hi : ∀ y ∈ D.pend.reverse, y.1 ≠ p) : readD D p = D.kept p := by
  unfold readD
  rw [List.find?_eq_none.2 (fun y hy => by simpa using hi y hy)]
  rfl

/-- A block of cells lies as it lay where only fresh blocks that are no cells turn. -/
theorem block_own {α : Type} (B : Nat) (f : α → Array Value) (t : TypeId) : Own (fun s W => W.heap[B]? = some (.cells (f s) t (0, 0))) := fun s X Y row hs hg hrow =>
  (hg.block B (Array.getElem?_eq_some_iff.1 hs).1 (fun e => by obtain ⟨o, ho, hc⟩ := hrow B e.symm; rw [show X.heap[B]? = _ from hs] at ho; cases ho; cases hc)).trans hs

theorem wpIn_scope_wide {n : Nat} {P : Program} {c : Code} {Q : Exit → Act → World → Prop} {a : Act} {w : World} (h : c.wpIn Fence.wide n P (Exit.noGoto Q) a w) : (Code.scope c).wpIn Fence.wide n P Q a w :=
  wpIn_wide.2 (wp_scope_straight (wpIn_wide.1 h))

section
variable {w : World} {d : Nat} {D : DS} {S : Nat → Prop} {bk : Nat} {pv av : Value} {H : List (Nat × List UInt8 × Nat)}


theorem Boxed_keep {W W' : World} {B : Nat} {t : TypeId} {v : Value} (h : Boxed W B t v) (hb : Below W.heap.size W W') : Boxed W' B t v := (hb.block B h.lt).trans h

/-- The three boxes of a read. -/
def W3 (w : World) (p : Int) : World := ((w.alloc (.cells #[.int .i64 p] 3)).alloc (.cells #[.slice none 0 0] 41)).alloc (.cells #[.int .i64 0] 37)
theorem W3_b (w : World) (p : Int) : Below w.heap.size w (W3 w p) := by unfold W3; ((repeat (first | (with_reducible exact Bnil _) | (with_reducible assumption) | (with_reducible refine Bset ?_ ?_ _) | (with_reducible refine Bnew ?_ _) | (with_reducible refine Bdrew ?_) | (with_reducible refine Bthen ?_ (by assumption)))); all_goals (simp; try omega))
theorem W3_size (w : World) (p : Int) : (W3 w p).heap.size = w.heap.size + 3 := by unfold W3; simp
theorem W3_0 (w : World) (p : Int) : Boxed (W3 w p) w.heap.size 3 (.int .i64 p) := by
  exact ((Boxed.new w _ _).alloc _).alloc _
theorem W3_1 (w : World) (p : Int) : Boxed (W3 w p) (w.heap.size + 1) 41 (.slice none 0 0) := by
  have := (Boxed.new (w.alloc (.cells #[.int .i64 p] 3)) 41 (.slice none 0 0)).alloc (.cells #[.int .i64 0] 37)
  rw [World.size_alloc] at this
  exact this
theorem W3_2 (w : World) (p : Int) : Boxed (W3 w p) (w.heap.size + 1 + 1) 37 (.int .i64 0) := by
  have := Boxed.new ((w.alloc (.cells #[.int .i64 p] 3)).alloc (.cells #[.slice none 0 0] 41)) 37 (.int .i64 0)
  rw [World.size_alloc, World.size_alloc] at this
  exact this

set_option maxRecDepth 100000 in
set_option maxHeartbeats 1000000 in
theorem Read_nil (p : Int) (w : World) : Calls Try.prog 83 #[.pointer none, .int .i64 p] w fun e w' => e = .returned (.tuple #[.slice none 0 0, .int .i64 1]) ∧ Below w.heap.size w w' := by
  refine (callsIn_wide (n := 9)).1 ?_
  refine callsIn_of_wp Try.func83 rfl trivial ?_ rfl
  simp only [Try.ntmps83, List.size_toArray, List.length_cons, List.length_nil, Nat.reduceAdd, Nat.reduceSub, Array.replicate_succ, Array.replicate_zero, List.push_toArray, List.append_toArray, List.nil_append, List.cons_append]
  gi_wp2_with fail
  refine wpIn_scope_wide ?_
  have h0 := W3_0 w p
  have h1 := W3_1 w p
  have h2 := W3_2 w p
  have hz := W3_size w p
  have hb0 := W3_b w p
  change Code.wpIn _ _ _ _ _ _ (W3 w p)
  generalize W3 w p = W0 at h0 h1 h2 hz hb0 ⊢
  gi_wp2_with fail
  refine ⟨trivial, (callsIn_wide.2 (Down_nil _)).mono ?_⟩
  rintro e w1 ⟨rfl, hb⟩
  have h0 := (Boxed_keep h0 hb).cell
  have h1' := Boxed_keep h1 hb
  have h2' := Boxed_keep h2 hb
  have hb1 := Bthen hb0 hb
  clear hb hb0 hz h1 h2
  have h1 := h1'.cell
  have h2 := h2'.cell
  have h1f := h1'.frozen
  have h2f := h2'.frozen
  clear h1' h2'
  gi_wp2_with fail
  refine ⟨trivial, (callsIn_wide.2 (asked_nil _ _)).mono ?_⟩
  rintro e w2 ⟨rfl, rfl⟩
  gi_wp2_with fail
  rw [Exit.noGoto_ret]
  refine bodyPost_ret (v := .tuple #[.slice none 0 0, .int .i64 1]) ?_ rfl ?_
  · simp [results, Try.f83, go_sem, h1, h2]
  · refine ⟨rfl, Bset (Bset hb1 ?_ _) ?_ _⟩ <;> simp <;> omega

set_option maxRecDepth 100000 in
set_option maxHeartbeats 1000000 in
theorem Read_down (p : Int) (h : DiskP w d D S bk pv av H) (hd : D.down = true) :
    Calls Try.prog 83 #[.pointer (some ⟨d, 0, none⟩), .int .i64 p] w fun e w' => e = .returned (.tuple #[.slice none 0 0, .int .i64 12]) ∧ Below w.heap.size w w' := by
  refine (callsIn_wide (n := 9)).1 ?_
  refine callsIn_of_wp Try.func83 rfl trivial ?_ rfl
  simp only [Try.ntmps83, List.size_toArray, List.length_cons, List.length_nil, Nat.reduceAdd, Nat.reduceSub, Array.replicate_succ, Array.replicate_zero, List.push_toArray, List.append_toArray, List.nil_append, List.cons_append]
  gi_wp2_with fail
  refine wpIn_scope_wide ?_
  have h0 := W3_0 w p
  have h1 := W3_1 w p
  have h2 := W3_2 w p
  have hz := W3_size w p
  have hb0 := W3_b w p
  change Code.wpIn _ _ _ _ _ _ (W3 w p)
  generalize W3 w p = W0 at h0 h1 h2 hz hb0 ⊢
  have hd0 := h.below hb0
  have Hh := Lib.hid h; clear h
  have c0 := h0.cell
  have c1 := h1.cell
  have c2 := h2.cell
  have f1 := h1.frozen
  have f2 := h2.frozen
  clear h0 h1 h2
  gi_wp2_with fail
  refine ⟨trivial, (callsIn_wide.2 (Down_any hd0)).mono ?_⟩
  rintro e w1 ⟨rfl, rfl⟩
  gi_wp2_with fail
  rw [Exit.noGoto_ret]
  refine bodyPost_ret (v := .tuple #[.slice none 0 0, .int .i64 12]) ?_ rfl ?_
  · simp [results, Try.f83, go_sem, c1, c2]
  · refine ⟨rfl, Bset (Bset hb0 ?_ _) ?_ _⟩ <;> simp <;> omega

set_option maxRecDepth 100000 in
set_option maxHeartbeats 1000000 in
theorem Read_range (p : Int) (h : DiskP w d D S bk pv av H) (hd : D.down = false) (hp : p < 0 ∨ (D.n : Int) ≤ p) :
    Calls Try.prog 83 #[.pointer (some ⟨d, 0, none⟩), .int .i64 p] w fun e w' => e = .returned (.tuple #[.slice none 0 0, .int .i64 2]) ∧ Below w.heap.size w w' := by
  have ha : askedD D p = 2 := by unfold askedD; rw [if_pos hp]
  refine (callsIn_wide (n := 9)).1 ?_
  refine callsIn_of_wp Try.func83 rfl trivial ?_ rfl
  simp only [Try.ntmps83, List.size_toArray, List.length_cons, List.length_nil, Nat.reduceAdd, Nat.reduceSub, Array.replicate_succ, Array.replicate_zero, List.push_toArray, List.append_toArray, List.nil_append, List.cons_append]
  gi_wp2_with fail
  refine wpIn_scope_wide ?_
  have h0 := W3_0 w p
  have h1 := W3_1 w p
  have h2 := W3_2 w p
  have hz := W3_size w p
  have hb0 := W3_b w p
  change Code.wpIn _ _ _ _ _ _ (W3 w p)
  generalize W3 w p = W0 at h0 h1 h2 hz hb0 ⊢
  have hd0 := h.below hb0
  have Hh := Lib.hid h; clear h
  have c0 := h0.cell
  have c1 := h1.cell
  have c2 := h2.cell
  have f1 := h1.frozen
  have f2 := h2.frozen
  clear h0 h1 h2
  gi_wp2_with fail
  refine ⟨trivial, (callsIn_wide.2 (Down_any hd0)).mono ?_⟩
  rintro e w1 ⟨rfl, rfl⟩
  gi_wp2_with fail
  refine ⟨trivial, (callsIn_wide.2 (asked_any p hd0)).mono ?_⟩
  rintro e w1 ⟨rfl, rfl⟩
  rw [ha]
  gi_wp2_with fail
  rw [Exit.noGoto_ret]
  refine bodyPost_ret (v := .tuple #[.slice none 0 0, .int .i64 2]) ?_ rfl ?_
  · simp [results, Try.f83, go_sem, c1, c2]
  · refine ⟨rfl, Bset (Bset hb0 ?_ _) ?_ _⟩ <;> simp <;> omega

set_option maxRecDepth 100000 in
set_option maxHeartbeats 1000000 in
theorem Read_yes (p : Nat) (h : DiskP w d D S bk pv av H) (hd : D.down = false) (hp : p < D.n) :
    Calls Try.prog 83 #[.pointer (some ⟨d, 0, none⟩), .int .i64 p] w fun e w' => ∃ g o, e = .returned (.tuple #[.slice (some ⟨g, o, none⟩) 512 512, .int .i64 0]) ∧ w.heap.size ≤ g ∧ w'.rangeAt g o (bytesV (readD D p)) ∧ Below w.heap.size w w' := by
  have ha : askedD D p = 0 := by unfold askedD; rw [if_neg (by omega)]
  obtain ⟨A, cap, rfl, hA⟩ : ∃ A cap, pv = .slice A D.pend.length cap ∧ (A = none ∧ D.pend = [] ∧ cap = 0 ∨ ∃ g, A = some ⟨g, 0, none⟩) := by
    rcases h.pend.2 with ⟨rfl, h0⟩ | ⟨g, cap, _, rfl, _⟩
    · exact ⟨none, 0, by rw [h0], .inl ⟨rfl, List.length_eq_zero_iff.1 h0, rfl⟩⟩
    · exact ⟨_, cap, rfl, .inr ⟨g, rfl⟩⟩
  obtain ⟨rs, hrl, hrm, hra⟩ := backs_of D.pend (fun x hx => (h.plen x hx).2)
  refine (callsIn_wide (n := 9)).1 ?_
  refine callsIn_of_wp_marks Try.func83 rfl trivial ?_ rfl
  simp only [Try.ntmps83, List.size_toArray, List.length_cons, List.length_nil, Nat.reduceAdd, Nat.reduceSub, Array.replicate_succ, Array.replicate_zero, List.push_toArray, List.append_toArray, List.nil_append, List.cons_append]
  gi_wp2_with fail
  refine wpIn_scope_wide ?_
  have h0 := W3_0 w (p : Int)
  have h1 := W3_1 w (p : Int)
  have h2 := W3_2 w (p : Int)
  have hz := W3_size w (p : Int)
  have hb0 := W3_b w (p : Int)
  change Code.wpIn _ _ _ _ _ _ (W3 w (p : Int))
  generalize W3 w (p : Int) = W0 at h0 h1 h2 hz hb0 ⊢
  have hd0 := h.below hb0
  have Hh := Lib.hid h; clear h
  have c0 := h0.cell
  have c1 := h1.cell
  have c2 := h2.cell
  obtain ⟨k0, k1, k2, k3, k4, k5, kf⟩ := hd0.cells
  clear k0 k2 k3 k4 k5
  have Hd0 := Lib.hid hd0; clear hd0
  gi_wp2_with fail
  refine ⟨trivial, (callsIn_wide.2 (Down_any Hd0.out)).mono ?_⟩
  rintro e w1 ⟨rfl, rfl⟩
  rw [hd]
  gi_wp2_with fail
  refine ⟨trivial, (callsIn_wide.2 (asked_any p Hd0.out)).mono ?_⟩
  rintro e w1 ⟨rfl, rfl⟩
  rw [ha]
  gi_wp2_with fail
  refine wpIn_label ?_
  gi_wp2_with fail
  refine ⟨trivial, (callsIn_wide.2 (Backward_any _ _ _ _)).mono ?_⟩
  rintro e w1 ⟨rfl, rfl⟩
  have hb1 : Below w.heap.size w (W0.alloc (.cells #[.slice A D.pend.length cap] 169)) := Bnew hb0 _
  have hz1 : (W0.alloc (.cells #[.slice A D.pend.length cap] 169)).heap.size = w.heap.size + 4 := by simp [hz]
  have e0 := h0.alloc (.cells #[.slice A D.pend.length cap] 169)
  have e1 := h1.alloc (.cells #[.slice A D.pend.length cap] 169)
  have e2 := h2.alloc (.cells #[.slice A D.pend.length cap] 169)
  have e3 := Boxed.new W0 169 (.slice A D.pend.length cap)
  rw [hz] at e3
  have hd1 := Hd0.out.below (Bbox W0 (.cells #[.slice A D.pend.length cap] 169))
  have Hd1 := Lib.hid hd1
  clear hd1 Hd0 c0 c1 c2 k1 kf h0 h1 h2 hb0
  rw [hz]
  generalize (W0.alloc (.cells #[.slice A D.pend.length cap] 169)) = W1 at hb1 hz1 e0 e1 e2 e3 Hd1 ⊢
  clear hz
  gi_wp2_with fail
  obtain ⟨b, hb, hsv⟩ : ∃ b, b < W1.heap.size ∧ ((Value.slice A D.pend.length cap = .slice none 0 0 ∧ rs = []) ∨ ∃ cap', Value.slice A D.pend.length cap = .slice (some ⟨b, 0, none⟩) rs.length cap' ∧ b < W1.heap.size ∧ ∀ (k : Nat) x, rs[k]? = some x → x.1 = (rs.length : Int) - 1 - (k : Int) ∧ W1.rangeAt b ((rs.length - 1 - k) * 513) x.2.cells) := by
    rcases hA with ⟨rfl, hn, rfl⟩ | ⟨g, rfl⟩
    · exact ⟨0, by omega, .inl ⟨by rw [hn]; rfl, List.length_eq_zero_iff.1 (by rw [hrl, hn]; rfl)⟩⟩
    · have hg : g < W1.heap.size := Hd1.out.ltS g (Hd1.out.ownS.2.2.1 g rfl)
      refine ⟨g, hg, .inr ⟨cap, by rw [hrl], hg, fun k x hx => ?_⟩⟩
      obtain ⟨q1, q2⟩ := hra k x hx
      rw [hrl]
      exact ⟨q1, pend_at Hd1.out.pend (fun y hy => (Hd1.out.plen y hy).2) rfl _ _ q2⟩
  have hmax : rs.length ≤ 1000000 := by have := Hd1.out.small.2.1; omega
  refine wpIn_rangeFunc_ownH rfl (by decide) (gf := 189) (lb := #[.pointer (some ⟨w.heap.size + 3, 0, none⟩)]) rfl trivial (enters_of Try.func189 (by kernel_rfl) rfl)
    (back_stops Fence.wide (9 - 1) trivial rfl (by decide) (w.heap.size + 3) b rs hmax _ W1 e3 hsv) (fun h k => h.trans k) (fun W l o o' hl _ _ _ => KeepTwo.put W l o' (by omega) (by omega)) (Below.refl _ _) (fun _ => rfl)
    (fun pre W => ((∀ y ∈ pre, y.2.1.1 ≠ p) ∧ Boxed W w.heap.size 3 (.int .i64 (p : Int)) ∧ Boxed W (w.heap.size + 1) 41 (.slice none 0 0) ∧ Boxed W (w.heap.size + 1 + 1) 37 (.int .i64 0)) ∧ Below w.heap.size w W)
    (fun c pre W => (c = .ret ∧ ∃ ini x Bx, pre = ini ++ [x] ∧ (∀ y ∈ ini, y.2.1.1 ≠ p) ∧ x.2.1.1 = p ∧ w.heap.size ≤ Bx ∧ W.heap[Bx]? = some (.cells x.2.cells.toArray 177 (0, 0)) ∧ Boxed W (w.heap.size + 1) 41 (.slice (some ⟨Bx, 1, none⟩) 512 512) ∧ Boxed W (w.heap.size + 1 + 1) 37 (.int .i64 0)) ∧ Below w.heap.size w W)
    (OwnFrom.and (Own.from (fun s X Y row hs hg hr => ⟨hs.1, boxed_own _ _ (fun _ => _) s X Y row hs.2.1 hg hr, boxed_own _ _ (fun _ => _) s X Y row hs.2.2.1 hg hr, boxed_own _ _ (fun _ => _) s X Y row hs.2.2.2 hg hr⟩) _) (ownFrom_below (Nat.le_refl _) (by omega)))
    (fun c => OwnFrom.and (Own.from (fun s X Y row hs hg hr => by
      obtain ⟨q0, ini, x, Bx, q1, q2, q3, q4, q5, q6, q7⟩ := hs
      exact ⟨q0, ini, x, Bx, q1, q2, q3, q4, block_own Bx (fun (_ : Unit) => _) _ () X Y row q5 hg hr, boxed_own _ _ (fun (_ : Unit) => _) () X Y row q6 hg hr, boxed_own _ _ (fun (_ : Unit) => _) () X Y row q7 hg hr⟩) _) (ownFrom_below (Nat.le_refl _) (by omega)))
    ⟨⟨by simp, e0, e1, e2⟩, hb1⟩
    (fun x a' W => ∃ Bx, w.heap.size + 1 + 1 < Bx ∧ W.heap[Bx]? = some (.cells x.2.cells.toArray 177 (0, 0)) ∧ a' = { tmps := #[.pointer (some ⟨d, 0, none⟩), .int .i64 (p : Int), undef, .pointer (some ⟨w.heap.size, 0, none⟩), .pointer (some ⟨w.heap.size + 1, 0, none⟩), .pointer (some ⟨w.heap.size + 1 + 1, 0, none⟩), .int .i64 0, undef, .pointer (some ⟨Bx, 0, none⟩), .pointer (some ⟨d, 0, none⟩), .bool false, .pointer (some ⟨d, 0, none⟩), .int .i64 (p : Int), .int .i64 0, .int .i64 0, .bool false, undef, .pointer (some ⟨d, 0, none⟩), .pointer (some ⟨d, 0, none⟩), .pointer (some ⟨d, 1, none⟩), .slice A D.pend.length cap, .func (.func 189) #[] #[.pointer (some ⟨w.heap.size + 3, 0, none⟩)], .int .i64 x.1, .agg x.2.cells.toArray, undef, undef, undef, undef, undef, undef, undef, undef, undef], defers := [] })
    (fun x a' s X Y row hs hg hr => by
      obtain ⟨Bx, q1, q2, q3⟩ := hs
      exact ⟨Bx, q1, block_own Bx (fun (_ : Unit) => _) _ () X Y row q2 hg (fun r e => (hr r e).2), q3⟩)
    ?assign ?body ?done ?stop
  case assign =>
    rintro l pre x W K ⟨⟨hp1, b0, b1, b2⟩, hB1⟩ hK
    have hxl := x.2.cells_length
    have hx1 := x.2.cells_one
    obtain ⟨U, hU⟩ : ∃ U : List Value, U = x.2.cells := ⟨_, rfl⟩
    rw [← hU] at hxl hx1
    simp only [← hU] at hK ⊢
    have HU := Lib.hid hU; clear hU
    have H1 := Lib.hid hx1; clear hx1
    gi_wp2_with fail
    rw [run_storeCells_fresh W _ U _ (by rw [hxl]; exact zero_wait_size) H1.out]
    gi_wp2_with fail
    exact hK _ _ ((KeepsOthers.alloc _ _).from _) (KeepTwo.alloc W _) ⟨⟨hp1, b0.alloc _, b1.alloc _, b2.alloc _⟩, Bnew hB1 _⟩ ⟨W.heap.size, b2.lt, heap_alloc_new W _, rfl⟩
  case body =>
    rintro l pre x a' W hl _ ⟨⟨hp1, b0, b1, b2⟩, hB1⟩ ⟨Bx, hBx, bX, rfl⟩ hlt
    have d0 := b0.cell
    have d1 := b1.cell
    have d2 := b2.cell
    have g1 := b1.frozen
    have g2 := b2.frozen
    have dx : W.cell? ⟨Bx, 0, none⟩ = some (.int .i64 (x.2.1.1 : Int)) := by rw [cell_of_row _ _ _ _ _ _ bX]; simp [Wt.cells]
    have BX := Lib.hid bX; clear bX
    by_cases hx : x.2.1.1 = p
    · have hx' : (x.2.1.1 : Int) = (p : Int) := by rw [hx]
      rw [hx'] at dx
      gi_wp2_with fail
      refine ⟨((KeepsOthers.setCell _ _ _).from _).trans ((KeepsOthers.setCell _ _ _).from _), ⟨rfl, pre, x, Bx, rfl, hp1, hx, by omega, ?_, (b1.set _).other (by omega) _, (b2.other (by omega) _).set _⟩,
        (hB1.setCell (p := ⟨w.heap.size + 1, 0, none⟩) (by simp) _).setCell (p := ⟨w.heap.size + 1 + 1, 0, none⟩) (by simp; omega) _⟩
      exact ((Below.heap_setCell _ _ _ _ (by simp; omega)).trans (Below.heap_setCell _ _ _ _ (by simp; omega))).trans BX.out
    · have hx' : ¬ (x.2.1.1 : Int) = (p : Int) := by omega
      gi_wp2_with fail
      refine ⟨KeepsFrom.refl _ _, KeepTwo.refl _ _ _, ⟨fun y hy => ?_, b0, b1, b2⟩, hB1⟩
      rcases List.mem_append.1 hy with hy | hy
      · exact hp1 y hy
      · rw [List.mem_singleton.1 hy]; exact hx
  case done =>
    rintro D0 ys W hD rfl ⟨⟨hp1, b0, b1, b2⟩, hB1⟩ hK
    have d0 := b0.cell
    have hall : readD D p = D.kept p := readD_none fun y hy => by
      rw [← hrm] at hy
      obtain ⟨z, hz, rfl⟩ := List.mem_map.1 hy
      exact hp1 z hz
    have hdW := Hh.out.below hB1
    have HdW := Lib.hid hdW; clear hdW
    have Hall := Lib.hid hall; clear hall
    have hKl := (Array.getElem?_eq_some_iff.1 hK).1
    have HK := Lib.hid hK; clear hK
    gi_wp2_with fail
    refine ⟨trivial, (callsIn_wide.2 (Kept_yes p HdW.out hp)).mono ?_⟩
    rintro e W4 ⟨rfl, hblk, hb4⟩
    have b1' := Boxed_keep b1 hb4
    have b2' := Boxed_keep b2 hb4
    have d1 := b1'.cell
    have d2 := b2'.cell
    have g1 := b1'.frozen
    have g2 := b2'.frozen
    have HK4 := Lib.hid ((hb4.block D0 hKl).trans HK.out)
    have Hblk := Lib.hid hblk; clear hblk
    have HB4 := Lib.hid (Bthen hB1 hb4)
    have hsz4 := hb4.size
    gi_wp2_with fail
    rw [Exit.noGoto_ret]
    have hW5 : ∀ k, k ≠ w.heap.size + 1 → k ≠ w.heap.size + 1 + 1 → ((W4.setCell ⟨w.heap.size + 1, 0, none⟩ (.slice (some ⟨W.heap.size, 0, none⟩) 512 512)).setCell ⟨w.heap.size + 1 + 1, 0, none⟩ (.int .i64 0)).heap[k]? = W4.heap[k]? := fun k h1 h2 =>
      (Below.heap_setCell _ _ _ _ (by simpa using h2)).trans (Below.heap_setCell _ _ _ _ (by simpa using h1))
    have hB5 := (HB4.out.setCell (p := ⟨w.heap.size + 1, 0, none⟩) (by simp) (.slice (some ⟨W.heap.size, 0, none⟩) 512 512)).setCell (p := ⟨w.heap.size + 1 + 1, 0, none⟩) (by simp; omega) (.int .i64 0)
    have j1 := (b1'.set (.slice (some ⟨W.heap.size, 0, none⟩) 512 512)).other (B' := w.heap.size + 1 + 1) (by omega) (.int .i64 0)
    have j2 := (b2'.other (B' := w.heap.size + 1) (by omega) (.slice (some ⟨W.heap.size, 0, none⟩) 512 512)).set (.int .i64 0)
    generalize ((W4.setCell ⟨w.heap.size + 1, 0, none⟩ (.slice (some ⟨W.heap.size, 0, none⟩) 512 512)).setCell ⟨w.heap.size + 1 + 1, 0, none⟩ (.int .i64 0)) = W5 at hW5 hB5 j1 j2 ⊢
    have hK5 := (hW5 D0 (by omega) (by omega)).trans HK4.out
    have hs2 := b2.lt
    have hR5 := (hW5 W.heap.size (by omega) (by omega)).trans Hblk.out
    refine ⟨by simp, .inl ⟨_, _, rfl, run_takeDeferred hK5, ?_⟩⟩
    have hc1 := cell_kept j1.cell (grownBy_putObj' _ D0 (.deferred none)) (fun r e => by cases e; exact ⟨_, hK5, rfl⟩)
    have hc2 := cell_kept j2.cell (grownBy_putObj' _ D0 (.deferred none)) (fun r e => by cases e; exact ⟨_, hK5, rfl⟩)
    refine ⟨.tuple #[.slice (some ⟨W.heap.size, 0, none⟩) 512 512, .int .i64 0], by simp [results, Try.f83, go_sem, hc1, hc2], W.heap.size, 0, rfl, hB1.size, ?_, hB5.trans (belowK_b (w := w) (Nat.le_refl _) W5 D0 _ _ (by omega) hK5 rfl rfl)⟩
    rw [Hall.out]
    intro j v hv
    rw [cell_of_row _ _ _ _ _ _ ((World.putObj_heap_other (by omega)).trans hR5)]
    simpa using hv
  case stop =>
    rintro D0 c pre W hD hpre ⟨⟨rfl, ini, x, Bx, q1, q2, q3, q4, q5, q6, q7⟩, hB1⟩ hK
    have HK := Lib.hid hK; clear hK
    gi_wp2_with fail
    rw [Exit.noGoto_ret]
    refine ⟨by simp, .inl ⟨_, _, rfl, run_takeDeferred HK.out, ?_⟩⟩
    have hc1 := cell_kept q6.cell (grownBy_putObj' _ D0 (.deferred none)) (fun r e => by cases e; exact ⟨_, HK.out, rfl⟩)
    have hc2 := cell_kept q7.cell (grownBy_putObj' _ D0 (.deferred none)) (fun r e => by cases e; exact ⟨_, HK.out, rfl⟩)
    refine ⟨.tuple #[.slice (some ⟨Bx, 1, none⟩) 512 512, .int .i64 0], by simp [results, Try.f83, go_sem, hc1, hc2], Bx, 1, rfl, q4, ?_, hB1.trans (belowK_b (w := w) (Nat.le_refl _) W D0 _ _ (by omega) HK.out rfl rfl)⟩
    have hrd : readD D p = x.2.1.2 := by
      refine readD_at (ini := ini.map (fun x => x.2.1)) ?_ ?_
      · rw [← hrm, ← q3]
        obtain ⟨t, ht⟩ := hpre
        exact ⟨t.map (fun x => x.2.1), by rw [← ht, q1]; simp⟩
      · intro y hy
        obtain ⟨z, hz, rfl⟩ := List.mem_map.1 hy
        exact q2 z hz
    rw [hrd]
    have hne : D0 ≠ Bx := by
      rintro rfl
      rw [HK.out] at q5
      cases q5
    intro j v hv
    rw [cell_of_row _ _ _ _ _ _ ((World.putObj_heap_other (Ne.symm hne)).trans q5)]
    simpa [Wt.cells, Nat.add_comm 1 j] using hv
end
end Go.Proofs.Ytdjndeleafhglaa
namespace Go.Proofs.Ytdjndeleafhglaa
open Go.RowKit

def intsV (l : List Int) : List Value := l.map (Value.int .i64)
theorem intsV_length (l : List Int) : (intsV l).length = l.length := by simp [intsV]

/-- A slice of ints: it reads so. -/
structure IntsAt (w : World) (A : Option Addr) (n : Nat) (l : List Int) : Prop where
  len : l.length = n
  at_ : 0 < n → ∃ g o, A = some ⟨g, o, none⟩ ∧ w.rangeAt g o (intsV l)
theorem IntsAt.keep {w w' : World} {A : Option Addr} {n : Nat} {l : List Int} (h : IntsAt w A n l) (hb : ∀ g o, A = some ⟨g, o, none⟩ → w'.heap[g]? = w.heap[g]?) : IntsAt w' A n l :=
  ⟨h.len, fun hn => by
    obtain ⟨g, o, hA, hr⟩ := h.at_ hn
    exact ⟨g, o, hA, rangeAt_keep hr (hb g o hA)⟩⟩

/-- Is the n-th that is pending kept whole? -/
def wholeB (l : List Int) (i : Nat) : Bool := if h : 0 < l.length then decide (bits .and .i64 (l[i % l.length]'(Nat.mod_lt _ h)) 1 = 1) else false

section
variable {w : World}
set_option maxRecDepth 100000 in
set_option maxHeartbeats 4000000 in
theorem whole_any (i x n c : Nat) (A : Option Addr) (l : List Int) (hx : w.cell? ⟨x, 0, none⟩ = some (.slice A n c)) (hl : IntsAt w A n l) (hsm : n ≤ 1000000) :
    Calls Try.prog 134 #[.int .i64 (i : Int), .pointer (some ⟨x, 0, none⟩)] w fun e w' => e = .returned (.bool (wholeB l i)) ∧ Below w.heap.size w w' := by
  have hcw := @BW.cell
  have hxl : x < w.heap.size := World.block_lt_of_cell? w _ hx
  have hlen := hl.len
  by_cases hn : 0 < n
  · obtain ⟨g, o, rfl, hr⟩ := hl.at_ hn
    have hm : i % n < l.length := by rw [hlen]; exact Nat.mod_lt _ hn
    obtain ⟨v, hv⟩ : ∃ v, l[i % n]? = some v := ⟨_, List.getElem?_eq_getElem hm⟩
    have hc := hr (i % n) (.int .i64 v) (by simp [intsV, hv])
    have hgl : g < w.heap.size := World.block_lt_of_cell? w _ hc
    have hw : wholeB l i = decide (bits .and .i64 v 1 = 1) := by
      unfold wholeB
      rw [dif_pos (by omega)]
      subst hlen
      rw [List.getElem?_eq_getElem hm] at hv
      injection hv with hv
      rw [hv]
    rw [hw]
    have hd : decide (0 < (n : Int)) = true := by simpa using hn
    have hmn : i % n < n := Nat.mod_lt _ hn
    have ht : (i : Int).tmod (n : Int) = ((i % n : Nat) : Int) := by
      rw [Int.tmod_eq_emod_of_nonneg (by omega)]
      omega
    have hn0 : ((n : Int) == 0) = false := by simp; omega
    have hn1 : (n : Int) ≠ 0 := by omega
    have hn2 : ¬ n = 0 := by omega
    generalize i % n = m at hm hv hc ht hmn
    have hmi : (m : Int) < (n : Int) := by omega
    go_enter Try.func134, Try.ntmps134
    go_wp2
    refine wp_region_below (by kernel_rfl) (by kernel_rfl) ?_
    iterate 15 (quiet_step (fail))
    refine wpQuiet_nil ?_
    rintro _ ⟨x, rfl⟩
    go_wp2
    go_ret
    exact ⟨ret_bool rfl, x.then (by ((repeat (first | (with_reducible exact Bnil _) | (with_reducible assumption) | (with_reducible refine Bset ?_ ?_ _) | (with_reducible refine Bnew ?_ _) | (with_reducible refine Bdrew ?_) | (with_reducible refine Bthen ?_ (by assumption)))); all_goals (simp; try omega)))⟩
  · obtain rfl : n = 0 := by omega
    have hw : wholeB l i = false := by unfold wholeB; rw [dif_neg (by omega)]
    rw [hw]
    clear hl hlen hn hw
    go_enter Try.func134, Try.ntmps134
    go_wp2
    refine wp_region_below (by kernel_rfl) (by kernel_rfl) ?_
    iterate 15 (quiet_step (fail))
    refine wpQuiet_nil ?_
    rintro _ ⟨x, rfl⟩
    go_wp2
    go_ret
    exact ⟨ret_bool rfl, x.then (by ((repeat (first | (with_reducible exact Bnil _) | (with_reducible assumption) | (with_reducible refine Bset ?_ ?_ _) | (with_reducible refine Bnew ?_ _) | (with_reducible refine Bdrew ?_) | (with_reducible refine Bthen ?_ (by assumption)))); all_goals (simp; try omega)))⟩

end
end Go.Proofs.Ytdjndeleafhglaa
namespace Go.Proofs.Ytdjndeleafhglaa
open Go.RowKit

/-- One that is pending, when the power comes back. -/
def stepR (ks : List Int) (torn : Int) (m : Nat) (D : DS) (x : Nat × List UInt8) (i : Nat) : DS :=
  if (i : Int) = torn then keepD D x.1 (x.2.take m ++ (D.kept x.1).drop m) else if wholeB ks i = true then keepD D x.1 x.2 else D
def restAll (ks : List Int) (torn : Int) (m : Nat) (D : DS) (l : List (Nat × List UInt8)) : DS := l.zipIdx.foldl (fun D x => stepR ks torn m D x.1 x.2) D
theorem restAll_snoc (ks : List Int) (torn : Int) (m : Nat) (D : DS) (l : List (Nat × List UInt8)) (x : Nat × List UInt8) : restAll ks torn m D (l ++ [x]) = stepR ks torn m (restAll ks torn m D l) x l.length := by
  unfold restAll
  rw [List.zipIdx_append, List.foldl_append]
  simp
theorem stepR_same (ks : List Int) (torn : Int) (m : Nat) (D : DS) (x : Nat × List UInt8) (i : Nat) :
    (stepR ks torn m D x i).n = D.n ∧ (stepR ks torn m D x i).pend = D.pend ∧ (stepR ks torn m D x i).hist.length ≤ D.hist.length + 1 ∧ (stepR ks torn m D x i).fuse = D.fuse ∧ (stepR ks torn m D x i).calls = D.calls ∧ (stepR ks torn m D x i).down = D.down := by
  unfold stepR
  split
  · simp [keepD]
  · split
    · simp [keepD]
    · simp
theorem restFold_same (ks : List Int) (torn : Int) (m : Nat) (l : List ((Nat × List UInt8) × Nat)) : ∀ D : DS,
    (l.foldl (fun D x => stepR ks torn m D x.1 x.2) D).n = D.n ∧ (l.foldl (fun D x => stepR ks torn m D x.1 x.2) D).pend = D.pend ∧ (l.foldl (fun D x => stepR ks torn m D x.1 x.2) D).hist.length ≤ D.hist.length + l.length ∧
      (l.foldl (fun D x => stepR ks torn m D x.1 x.2) D).fuse = D.fuse ∧ (l.foldl (fun D x => stepR ks torn m D x.1 x.2) D).calls = D.calls ∧ (l.foldl (fun D x => stepR ks torn m D x.1 x.2) D).down = D.down := by
  induction l with
  | nil => intro D; simp
  | cons x l ih =>
    intro D
    obtain ⟨h1, h2, h3, h4, h5, h6⟩ := ih (stepR ks torn m D x.1 x.2)
    obtain ⟨g1, g2, g3, g4, g5, g6⟩ := stepR_same ks torn m D x.1 x.2
    simp only [List.foldl_cons, List.length_cons]
    exact ⟨h1.trans g1, h2.trans g2, by omega, h4.trans g4, h5.trans g5, h6.trans g6⟩
theorem restAll_same (ks : List Int) (torn : Int) (m : Nat) (l : List (Nat × List UInt8)) (D : DS) :
    (restAll ks torn m D l).n = D.n ∧ (restAll ks torn m D l).pend = D.pend ∧ (restAll ks torn m D l).hist.length ≤ D.hist.length + l.length ∧ (restAll ks torn m D l).fuse = D.fuse ∧ (restAll ks torn m D l).calls = D.calls ∧ (restAll ks torn m D l).down = D.down := by
  have := restFold_same ks torn m l.zipIdx D
  rw [List.length_zipIdx] at this
  exact this

/-- The power comes back. -/
def restD (D : DS) (ks : List Int) (torn at_ : Int) : DS := { restAll ks torn (at_ % 513).toNat D D.pend with pend := [], down := false, fuse := -1 }

theorem bytesV_take (l : List UInt8) (n : Nat) : bytesV (l.take n) = (bytesV l).take n := by simp [bytesV, List.map_take]
theorem bytesV_drop (l : List UInt8) (n : Nat) : bytesV (l.drop n) = (bytesV l).drop n := by simp [bytesV, List.map_drop]
theorem bytesV_append (l m : List UInt8) : bytesV (l ++ m) = bytesV l ++ bytesV m := by simp [bytesV]

/-- The head of a fresh block is written. -/
theorem setCells_alloc_head (w : World) (t : TypeId) (vs : List Value) (C : List Value) (h : vs.length ≤ C.length) : (w.alloc (.cells C.toArray t)).setCells w.heap.size 0 vs = w.alloc (.cells (vs ++ C.drop vs.length).toArray t) := by
  rw [setCells_alloc_go]
  congr 2
  have key := foldl_set 0 vs 0 C.toArray (by simpa using h)
  simp only [Nat.zero_add, List.take_zero, List.nil_append] at key
  exact Array.ext' key

/-- copy onto the head of a fresh block. -/
theorem wp_copy_new {P : Program} {w : World} {o : Oper} {a : Act} {K : Act → World → Prop} {Q : Exit → Act → World → Prop} (x y : Operand) (dT sT : TypeId)
    (ho : o.op = .call { callee := .builtin .copy, args := #[x, y], argTypes := #[dT, sT] }) (elem : TypeId) (hu : P.underlying dT = some (.slice elem)) (hs : (P.info? elem).map (·.size) = some 1)
    (C cs : List Value) (t : TypeId) (dLen dCap sLen sCap : Nat) (ad : Addr) (hx : a.eval x = .slice (some ⟨w.heap.size, 0, none⟩) dLen dCap) (hy : a.eval y = .slice (some ad) sLen sCap) (hn : cs.length = Nat.min sLen dLen)
    (hle : cs.length ≤ C.length) (hsrc : ∀ j v, cs[j]? = some v → (w.alloc (.cells C.toArray t)).cell? (ad.add j) = some v) (h1 : ∀ v ∈ cs, v.oneCell' = true)
    (h : K (a.put o.dst (goInt cs.length)) (w.alloc (.cells (cs ++ C.drop cs.length).toArray t))) : o.wp P a (w.alloc (.cells C.toArray t)) K Q := by
  have hth := there_of (heap_alloc_new w (.cells C.toArray t)) (o := 0) (n := cs.length) (by simpa using hle)
  have hr := run_copy_cells (P := P) (w.alloc (.cells C.toArray t)) dT sT o.type elem w.heap.size 0 dLen dCap ad sLen sCap cs hu hs hn hsrc (fun j hj => by simpa using (hth j hj).1) (fun j hj => by simp) h1
  rw [setCells_alloc_head w t cs C hle] at hr
  unfold Oper.wp execOp
  simp only [ho, resolve, invoke, builtin, Sem.run_bind, Sem.run_pure, Result.andThen_ok, List.map_toArray, List.map_cons, List.map_nil, hx, hy, hr]
  exact h

theorem IntsAt.keep0 {w w' : World} {A : Option Addr} {n : Nat} {l : List Int} (h : IntsAt w A n l) (hb : 0 < n → ∀ g o, A = some ⟨g, o, none⟩ → w'.heap[g]? = w.heap[g]?) : IntsAt w' A n l :=
  ⟨h.len, fun hn => by
    obtain ⟨g, o, hA, hr⟩ := h.at_ hn
    exact ⟨g, o, hA, rangeAt_keep hr (hb hn g o hA)⟩⟩
theorem size_byte : (Try.prog.info? 5).map (·.size) = some 1 := by kernel_rfl
theorem run_storeCells_drew {P : Program} (w : World) (t : TypeId) (V : List Value) (C : Array Value) (hC : C.size = V.length) (h1 : ∀ v ∈ V, v.oneCell' = true) :
    (storeCells ⟨w.heap.size, 0, none⟩ V).run P (w.alloc (.cells C t)).drew = .ok () (w.alloc (.cells V.toArray t)).drew := run_storeCells_fresh w.drew t V C hC h1

section
variable {w : World} {d : Nat} {D : DS} {S : Nat → Prop} {bk : Nat} {pv av : Value} {H : List (Nat × List UInt8 × Nat)}

theorem Restart_nil (A : Option Addr) (n c : Nat) (torn at_ : Int) (w : World) :
    Calls Try.prog 51 #[.pointer none, .slice A n c, .int .i64 torn, .int .i64 at_] w fun e w' => e = .returned (.tuple #[]) ∧ Below w.heap.size w w' := by
  go_enter Try.func51, Try.ntmps51
  go_wp2_with fail
  refine bodyPost_ret (results_none rfl _ _ _) rfl ?_
  exact ⟨rfl, by ((repeat (first | (with_reducible exact Bnil _) | (with_reducible assumption) | (with_reducible refine Bset ?_ ?_ _) | (with_reducible refine Bnew ?_ _) | (with_reducible refine Bdrew ?_) | (with_reducible refine Bthen ?_ (by assumption)))); all_goals (simp; try omega))⟩

set_option maxRecDepth 100000 in
set_option maxHeartbeats 4000000 in
theorem Restart_any (A : Option Addr) (n c : Nat) (torn at_ : Int) (ks : List Int) (h : DiskP w d D S bk pv av H) (hks : IntsAt w A n ks) (hkS : 0 < n → ∀ g o, A = some ⟨g, o, none⟩ → ¬ S g ∧ g < w.heap.size) (hkb : n ≤ 1000000)
    (hsm : 2 * D.pend.length + D.hist.length ≤ 1000000) :
    Calls Try.prog 51 #[.pointer (some ⟨d, 0, none⟩), .slice A n c, .int .i64 torn, .int .i64 at_] w fun e w' => e = .returned (.tuple #[]) ∧
      ∃ S' pv' av' H', DiskP w' d (restD D ks torn at_) S' bk pv' av' H' ∧ Frame S w w' ∧ ∀ k, S' k → S k ∨ w.heap.size ≤ k := by
  obtain ⟨c0, c1, c2, c3, c4, c5, hf⟩ := h.cells
  have hdl := blk_lt h.hdr
  obtain ⟨r, hr⟩ : ∃ r, r = at_.tmod 513 := ⟨_, rfl⟩
  have hrb : -513 < r ∧ r < 513 ∧ (r + 513).tmod 513 = at_ % 513 := by
    have h1 := Int.tmod_lt_of_pos at_ (show (0 : Int) < 513 by decide)
    have h2 : -513 < at_.tmod 513 := Int.lt_tmod_of_pos at_ (show (0 : Int) < 513 by decide)
    have h3 := Int.mul_tdiv_add_tmod at_ 513
    rw [← hr] at h1 h2 h3
    refine ⟨h2, h1, ?_⟩
    rw [Int.tmod_eq_emod_of_nonneg (by omega)]
    omega
  obtain ⟨m, hm⟩ : ∃ m : Nat, m = (at_ % 513).toNat := ⟨_, rfl⟩
  have e1 : IntKind.i64.wrap (r + 513) = r + 513 := IntWalk.i64_in _ (by omega)
  have e2 : (r + 513).tmod 513 = (m : Int) := by omega
  have hmb : m ≤ 512 := by omega
  have hr' : at_.tmod 513 = r := hr.symm
  obtain ⟨B, cap, rfl, hB⟩ : ∃ B cap, pv = .slice B D.pend.length cap ∧ (0 < D.pend.length → ∃ g, B = some ⟨g, 0, none⟩) := by
    rcases h.pend.2 with ⟨rfl, h0⟩ | ⟨g, cap, _, rfl, _⟩
    · exact ⟨none, 0, by rw [h0], fun h => by omega⟩
    · exact ⟨_, cap, rfl, fun _ => ⟨g, rfl⟩⟩
  have hmf : ∀ (fn : Fn) (first cap : Array Value) (w : World), (Instr.makeFunc fn first cap).run Try.prog w = .ok (.func fn first cap) w := fun _ _ _ _ => rfl
  have Hh := Lib.hid h; clear h
  have Hks := Lib.hid hks; clear hks
  have HkS := Lib.hid hkS; clear hkS
  have HB := Lib.hid hB; clear hB
  have Hm := Lib.hid hm; clear hm
  clear hr hrb
  go_enter Try.func51, Try.ntmps51
  go_wp2_with fail
  clear hmf hr' e1 e2 c0 c1 c2 c3 c4 c5 hf
  have hS0 : ¬ S w.heap.size := fun hs => by have := Hh.out.ltS _ hs; omega
  have hx0 : (w.alloc (.cells #[.slice A n c] 29)).cell? ⟨w.heap.size, 0, none⟩ = some (.slice A n c) := by
    rw [cell_of_row _ _ _ _ _ _ (heap_alloc_new w _)]; rfl
  have hsz1 : (w.alloc (.cells #[.slice A n c] 29)).heap.size = w.heap.size + 1 := by simp
  have hb1 : Below w.heap.size w (w.alloc (.cells #[.slice A n c] 29)) := Bbox _ _
  have H1 := Lib.hid (Hh.out.below hb1)
  have hf1 : Frame S w (w.alloc (.cells #[.slice A n c] 29)) := Frame.of_below hb1
  have Hx0 := Lib.hid hx0; clear hx0
  generalize (w.alloc (.cells #[.slice A n c] 29)) = w1 at H1 Hx0 hsz1 hb1 hf1 ⊢
  go_loopw [25] (fun i wr => ∃ k : Nat, k ≤ D.pend.length ∧ i = .int .i64 k ∧ ∃ S' av' H', DiskP wr d (restAll ks torn m D (D.pend.take k)) S' bk (.slice B D.pend.length cap) av' H' ∧ Frame S w1 wr ∧ ∀ j, S' j → S j ∨ w1.heap.size ≤ j) (fun i _ => D.pend.length - (intOf i).toNat)
  case atStart => exact ⟨0, by omega, rfl, S, av, H, H1.out, Frame.refl _ _, fun j hj => .inl hj⟩
  case round =>
    obtain ⟨k, hk, rfl, S', av', H', h2, hfr, hSS⟩ := hrel
    obtain ⟨kn, kp, kh, kf, kc, kd⟩ := restAll_same ks torn m (D.pend.take k) D
    by_cases hlt : k < D.pend.length
    · obtain ⟨g, rfl⟩ := HB.out (by omega)
      obtain ⟨⟨q, b⟩, hqb⟩ : ∃ x, D.pend[k]? = some x := ⟨_, List.getElem?_eq_getElem hlt⟩
      have hmem : (q, b) ∈ (restAll ks torn m D (D.pend.take k)).pend := by rw [kp]; exact List.mem_of_getElem? hqb
      obtain ⟨hqn, hbl⟩ := h2.plen _ hmem
      have hown := h2.pend
      rw [kp] at hown
      have hrg := pend_at hown (fun y hy => (h2.plen y (by rw [kp]; exact hy)).2) rfl k (q, b) hqb
      simp only at hrg hqn hbl
      have hlen : (bytesV b).length = 512 := by rw [bytesV_length, hbl]
      have hszU : (Try.prog.info? 177).map (·.size) = some (.int .i64 (q : Int) :: bytesV b : List Value).length := by
        obtain ⟨i1, hi1, _, hi1s, _⟩ := info_wait2
        rw [hi1, List.length_cons, hlen]; simp [hi1s]
      have honeU : ∀ v ∈ (.int .i64 (q : Int) :: bytesV b : List Value), v.oneCell' = true := List.forall_mem_cons.2 ⟨rfl, bytesV_one b⟩
      have hszV : (Try.prog.info? 175).map (·.size) = some (bytesV b).length := by rw [hlen]; exact size_block
      obtain ⟨U, hU⟩ : ∃ U : List Value, U = .int .i64 (q : Int) :: bytesV b := ⟨_, rfl⟩
      have hUl : U.length = 513 := by rw [hU, List.length_cons, hlen]
      rw [← hU] at hrg hszU honeU
      have hkn : (k : Int) < (D.pend.length : Int) := by omega
      have hD5 : stepR ks torn m (restAll ks torn m D (D.pend.take k)) (q, b) k = restAll ks torn m D (D.pend.take (k + 1)) := by
        rw [List.take_add_one, hqb, Option.toList_some, restAll_snoc, List.length_take, Nat.min_eq_left hk]
      have hcellq : (wr.alloc (.cells U.toArray 177)).cell? ⟨wr.heap.size, 0, none⟩ = some (.int .i64 (q : Int)) := by
        rw [cell_of_row _ _ _ _ _ _ (heap_alloc_new wr _), hU]; simp
      have hrg2 : (wr.alloc (.cells U.toArray 177)).rangeAt wr.heap.size 1 (bytesV b) := fun j v hv => by
        rw [cell_of_row _ _ _ _ _ _ (heap_alloc_new wr _), hU]
        simpa [Nat.add_comm 1 j] using hv
      have h3 := h2.below (Bbox wr (.cells U.toArray 177))
      have hfr3 := hfr.alloc (.cells U.toArray 177)
      have hsz4 : wr.heap.size < (wr.alloc (.cells U.toArray 177)).heap.size := by simp
      have hzr := hfr.size
      have hsm5 : (restAll ks torn m D (D.pend.take k)).pend.length + (restAll ks torn m D (D.pend.take k)).hist.length + 1 ≤ 1000000 := by
        rw [kp]; rw [List.length_take] at kh; omega
      have HD5 := Lib.hid hD5; clear hD5
      have Hqb := Lib.hid hqb; clear hqb
      have HUl := Lib.hid hUl; clear hUl
      have Hrg := Lib.hid hrg; clear hrg
      have HszU := Lib.hid hszU; clear hszU
      have HszV := Lib.hid hszV; clear hszV
      have HoneU := Lib.hid honeU; clear honeU
      have HU := Lib.hid hU; clear hU
      have Hlen := Lib.hid hlen; clear hlen
      have Hbl := Lib.hid hbl; clear hbl
      have Hrg2 := Lib.hid hrg2; clear hrg2
      have H3 := Lib.hid h3; clear h3 h2 hown hmem
      have hrel5 : ∀ (w5 : World) (S5 : Nat → Prop) (av5 : Value) (H5 : List (Nat × List UInt8 × Nat)) (D5 : DS), D5 = restAll ks torn m D (D.pend.take (k + 1)) → DiskP w5 d D5 S5 bk (.slice (some ⟨g, 0, none⟩) D.pend.length cap) av5 H5 → Frame S' (wr.alloc (.cells U.toArray 177)) w5 → (∀ j, S5 j → S' j ∨ (wr.alloc (.cells U.toArray 177)).heap.size ≤ j) →
          ∃ S' av' H', DiskP w5 d (restAll ks torn m D (D.pend.take (k + 1))) S' bk (.slice (some ⟨g, 0, none⟩) D.pend.length cap) av' H' ∧ Frame S w1 w5 ∧ ∀ j, S' j → S j ∨ w1.heap.size ≤ j := fun w5 S5 av5 H5 D5 hD h5 hf5 hS5 => by
        subst hD
        exact ⟨S5, av5, H5, h5, hfr3.trans hf5 hSS, fun j hj => by
          rcases hS5 j hj with hj | hj
          · exact hSS j hj
          · exact .inr (by omega)⟩
      have Hrel5 := Lib.hid hrel5; clear hrel5
      go_wp2_with fail
      refine wp_load_mid 177 _ rfl g (k * 513) rfl U _ Hrg.out Try.underlying177 rfl HszU.out ?_
      go_wp2_with fail
      rw [run_storeCells_fresh wr _ U _ (by rw [HUl.out]; exact zero_wait_size) HoneU.out]
      have hS'x : ¬ S' w.heap.size := fun hs => by
        rcases hSS _ hs with h1 | h1
        · exact hS0 h1
        · omega
      have hcx : (wr.alloc (.cells U.toArray 177)).cell? ⟨w.heap.size, 0, none⟩ = some (.slice A n c) :=
        (World.cell?_of_block (hfr3.block w.heap.size (by omega) hS0)).trans Hx0.out
      have hks3 : IntsAt (wr.alloc (.cells U.toArray 177)) A n ks := (Hks.out.keep0 (w' := w1) fun hn g o hA => hb1.block g (HkS.out hn g o hA).2).keep0 fun hn g o hA => hfr3.block g (by have := (HkS.out hn g o hA).2; omega) (HkS.out hn g o hA).1
      have Hks3 := Lib.hid hks3; clear hks3
      obtain ⟨wr2, hwr2⟩ : ∃ wr2, wr2 = wr.alloc (.cells U.toArray 177) := ⟨_, rfl⟩
      rw [← hwr2] at hcellq Hrg2 hfr3 H3 hsz4 Hrel5 hcx Hks3 ⊢
      clear hwr2
      obtain ⟨c0, c1, c2, c3, c4, c5, hf⟩ := H3.out.cells
      clear c1 c2 c3 c4 c5 hf
      by_cases ht : (k : Int) = torn
      · have ht1 : ((k : Int) == torn) = true := by simpa using ht
        have ht2 : decide ((k : Int) = torn) = true := by simpa using ht
        have Ht := Lib.hid ht; clear ht
        go_wp2_with fail
        have hklen := H3.out.klen q hqn
        have hKl : (bytesV ((restAll ks torn m D (D.pend.take k)).kept q)).length = 512 := by rw [bytesV_length, hklen]
        have hKr := H3.out.kept q hqn
        have hK1 := bytesV_one ((restAll ks torn m D (D.pend.take k)).kept q)
        have hszK : (Try.prog.info? 175).map (·.size) = some (bytesV ((restAll ks torn m D (D.pend.take k)).kept q)).length := by rw [hKl]; exact size_block
        obtain ⟨K0, hK0⟩ : ∃ K0, K0 = bytesV ((restAll ks torn m D (D.pend.take k)).kept q) := ⟨_, rfl⟩
        rw [← hK0] at hKl hKr hK1 hszK
        have HK0 := Lib.hid hK0; clear hK0
        have HKl := Lib.hid hKl; clear hKl
        have HK1 := Lib.hid hK1; clear hK1
        have HszK := Lib.hid hszK; clear hszK
        have Hklen := Lib.hid hklen; clear hklen
        have hqlt : (q : Int) < (D.n : Int) := by rw [kn] at hqn; omega
        rw [kn] at c0
        refine wp_region_in (fun w' => w'.cell? ⟨d, 0, none⟩ = some (.slice (some ⟨bk, 0, none⟩) D.n D.n) ∧ w'.cell? ⟨wr.heap.size, 0, none⟩ = some (.int .i64 (q : Int)) ∧ w'.rangeAt bk (q * 512) K0) [(0, true), (1, true), (2, true), (3, true), (4, true), (5, true), (6, true), (7, true), (8, false), (9, false)] (by kernel_rfl) (by kernel_rfl) (fun _ _ _ _ _ h => h) ⟨c0, hcellq, hKr⟩ (fun hne => ?_)
        have hs0 : ∀ x : InS (fun w' => w'.cell? ⟨d, 0, none⟩ = some (.slice (some ⟨bk, 0, none⟩) D.n D.n) ∧ w'.cell? ⟨wr.heap.size, 0, none⟩ = some (.int .i64 (q : Int)) ∧ w'.rangeAt bk (q * 512) K0), x.w.cell? ⟨d, 0, none⟩ = some (.slice (some ⟨bk, 0, none⟩) D.n D.n) := fun x => x.h.1
        have hs1 : ∀ x : InS (fun w' => w'.cell? ⟨d, 0, none⟩ = some (.slice (some ⟨bk, 0, none⟩) D.n D.n) ∧ w'.cell? ⟨wr.heap.size, 0, none⟩ = some (.int .i64 (q : Int)) ∧ w'.rangeAt bk (q * 512) K0), x.w.cell? ⟨wr.heap.size, 0, none⟩ = some (.int .i64 (q : Int)) := fun x => x.h.2.1
        simp only [permOps, List.map_cons, List.map_nil, List.getD_cons_zero, List.getD_cons_succ]
        (iterate 7 ((with_reducible refine wpPerm_F ?_); intro K hK; go_simp; refine hK _ _ ?_; clear hK K))
        refine wpPerm_F1 rfl _ (okVal_load 175 _ rfl bk (q * 512) rfl K0 _ (fun w' ⟨x, hx⟩ => by rw [hx]; exact x.h.2.2) Try.underlying175 rfl HszK.out) ?_
        (with_reducible refine wpPerm_E rfl ?_); intro K hK
        go_wp2_with fail
        have hb2A : Below wr2.heap.size wr2 (wr2.alloc (.cells Try.zeroCells175 175)).drew := (Bbox _ _).drew
        refine ⟨⟨⟨_, (hb2A.cell (p := ⟨d, 0, none⟩) (blk_lt H3.out.hdr)).trans c0, (hb2A.cell (p := ⟨wr.heap.size, 0, none⟩) hsz4).trans hcellq, rangeAt_keep hKr (hb2A.block bk (H3.out.ltS bk H3.out.ownS.2.1))⟩, rfl⟩, ?_⟩
        (with_reducible refine wpPerm_L rfl ?_); intro K hK
        go_simp
        rw [run_storeCells_drew wr2 _ K0 _ (by rw [HKl.out]; exact zero_block_size) HK1.out]
        clear hs0 hs1 hne hb2A
        have hmI : (m : Int) ≤ 512 := by omega
        go_wp2_with fail
        refine wp_region_in (fun _ => True) [(0, true), (1, true), (2, true), (3, true), (4, false)] (by kernel_rfl) (by kernel_rfl) (fun _ _ _ _ _ h => h) trivial (fun hne => ?_)
        simp only [permOps, List.map_cons, List.map_nil, List.getD_cons_zero, List.getD_cons_succ]
        (iterate 4 ((with_reducible refine wpPerm_F ?_); intro K hK; go_simp; refine hK _ _ ?_; clear hK K))
        (with_reducible refine wpPerm_L rfl ?_); intro K hK
        have hcsl : ((bytesV b).take m).length = m := by rw [List.length_take, Hlen.out]; omega
        refine wp_copy_new (w := wr2.drew.drew) _ _ 41 41 rfl 5 Try.underlying41 ?c1 K0 ((bytesV b).take m) 175 m 512 512 512 ⟨wr.heap.size, 1, none⟩ ?c2 ?c3 ?c4 ?c5 ?c6 ?c7 ?_
        case c1 => exact size_byte
        case c2 => rfl
        case c3 => rfl
        case c4 => rw [hcsl]; exact (Nat.min_eq_right hmb).symm
        case c5 => rw [hcsl, HKl.out]; exact hmb
        case c6 =>
          intro j v hv
          rw [Addr.add_mid]
          have hv2 : (bytesV b)[j]? = some v := by
            rw [List.getElem?_take] at hv
            split at hv
            · exact hv
            · simp at hv
          exact (World.cell?_of_block (w := wr2) (Below.heap_alloc _ _ _ hsz4)).trans (Hrg2.out j v hv2)
        case c7 => exact fun v hv => bytesV_one b v (List.mem_of_mem_take hv)
        obtain ⟨bt, hbt⟩ : ∃ bt, bt = b.take m ++ ((restAll ks torn m D (D.pend.take k)).kept q).drop m := ⟨_, rfl⟩
        have hbtl : bt.length = 512 := by rw [hbt, List.length_append, List.length_take, List.length_drop, Hbl.out, Hklen.out]; omega
        have hX : (bytesV b).take m ++ K0.drop ((bytesV b).take m).length = bytesV bt := by rw [hcsl, HK0.out, hbt, bytesV_append, bytesV_take, bytesV_drop]
        rw [hX]
        have hb4 : Below wr2.heap.size wr2 (wr2.drew.drew.alloc (.cells (bytesV bt).toArray 175)) := Bnew (Bdrew (Bdrew (Bnil wr2))) _
        have hnew4 : (wr2.drew.drew.alloc (.cells (bytesV bt).toArray 175)).rangeAt wr2.heap.size 0 (bytesV bt) := fun j v hv => by
          have := cell_of_row (wr2.drew.drew.alloc (.cells (bytesV bt).toArray 175)) wr2.heap.size (0 + j) _ _ _ (heap_alloc_new wr2.drew.drew _)
          rw [this]; simpa using hv
        have hst : stepR ks torn m (restAll ks torn m D (D.pend.take k)) (q, b) k = keepD (restAll ks torn m D (D.pend.take k)) q bt := by
          unfold stepR; rw [if_pos Ht.out, hbt]
        have hszT : (Try.prog.info? 175).map (·.size) = some (bytesV bt).length := by rw [bytesV_length, hbtl]; exact size_block
        generalize (wr2.drew.drew.alloc (.cells (bytesV bt).toArray 175)) = w4 at hb4 hnew4 ⊢
        have hcellq4 := (hb4.cell (p := ⟨wr.heap.size, 0, none⟩) hsz4).trans hcellq
        have h4 := H3.out.below hb4
        have hfr4 : Frame S' wr2 w4 := Frame.of_below hb4
        have hz4 := hb4.size
        have hk3 := keep_any q bt h4 hqn hbtl hsm5
        have Hk3 := Lib.hid hk3; clear hk3
        have Hst := Lib.hid hst; clear hst
        have H4 := Lib.hid h4; clear h4
        have Hnew4 := Lib.hid hnew4; clear hnew4
        have HszT := Lib.hid hszT; clear hszT
        clear hX hbt hbtl hcsl hb4 c0 hcellq hcx hne
        (refine hK _ _ ?_; clear hK K)
        go_wp2_with fail
        refine wp_load_mid 175 _ rfl wr2.heap.size 0 rfl (bytesV bt) _ Hnew4.out Try.underlying175 rfl HszT.out ?_
        go_wp2_with fail
        refine Hk3.out.mono ?_
        rintro e w5 ⟨rfl, S5, av5, H5, h5, hf5, hS5⟩
        have hrel6 := Hrel5.out w5 S5 av5 H5 _ (Hst.out.symm.trans HD5.out) h5 (hfr4.trans hf5 (fun j hj => .inl hj)) (fun j hj => by
          rcases hS5 j hj with hj | hj
          · exact .inl hj
          · exact .inr (by omega))
        clear h5 hf5 hS5 hfr4
        go_wp2_with fail
        go_roundw
        case rel => exact ⟨k + 1, by omega, by go_num, hrel6⟩
        case measure => simp [intOf]; omega
      · have ht1 : ((k : Int) == torn) = false := by simpa using ht
        have ht2 : decide ((k : Int) = torn) = false := by simpa using ht
        go_wp2_with fail
        refine (whole_any k w.heap.size n c A ks hcx Hks3.out hkb).mono ?_
        rintro e w4 ⟨rfl, hb4⟩
        have hcellq4 := (hb4.cell (p := ⟨wr.heap.size, 0, none⟩) hsz4).trans hcellq
        have hrg4 : w4.rangeAt wr.heap.size 1 (bytesV b) := rangeAt_keep Hrg2.out (hb4.block _ hsz4)
        have h4 := H3.out.below hb4
        have hfr4 : Frame S' wr2 w4 := Frame.of_below hb4
        have hz4 := hb4.size
        have Hrg4 := Lib.hid hrg4; clear hrg4
        have hst : stepR ks torn m (restAll ks torn m D (D.pend.take k)) (q, b) k = if wholeB ks k = true then keepD (restAll ks torn m D (D.pend.take k)) q b else restAll ks torn m D (D.pend.take k) := by
          unfold stepR; rw [if_neg ht]
        clear c0 hcellq hcx hb4
        by_cases hw : wholeB ks k = true
        · rw [if_pos hw] at hst
          have hk3 := keep_any q b h4 hqn Hbl.out hsm5
          have Hk3 := Lib.hid hk3; clear hk3
          have Hst := Lib.hid hst; clear hst
          have H4 := Lib.hid h4; clear h4
          go_wp2_with fail
          refine wp_load_mid 175 _ rfl wr.heap.size 1 rfl (bytesV b) _ Hrg4.out Try.underlying175 rfl HszV.out ?_
          go_wp2_with fail
          refine Hk3.out.mono ?_
          rintro e w5 ⟨rfl, S5, av5, H5, h5, hf5, hS5⟩
          have hrel6 := Hrel5.out w5 S5 av5 H5 _ (Hst.out.symm.trans HD5.out) h5 (hfr4.trans hf5 (fun j hj => .inl hj)) (fun j hj => by
            rcases hS5 j hj with hj | hj
            · exact .inl hj
            · exact .inr (by omega))
          clear h5 hf5 hS5 hfr4
          go_wp2_with fail
          go_roundw
          case rel => exact ⟨k + 1, by omega, by go_num, hrel6⟩
          case measure => simp [intOf]; omega
        · have hwf : wholeB ks k = false := by simpa using hw
          rw [if_neg hw] at hst
          have hrel6 := Hrel5.out w4 S' av' H' _ (hst.symm.trans HD5.out) h4 hfr4 (fun j hj => .inl hj)
          clear hst h4 hfr4
          go_wp2_with fail
          go_roundw
          case rel => exact ⟨k + 1, by omega, by go_num, hrel6⟩
          case measure => simp [intOf]; omega
    · have hkl : D.pend.take k = D.pend := List.take_of_length_le (by omega)
      rw [hkl] at h2
      have hkn : ¬ (k : Int) < (D.pend.length : Int) := by omega
      obtain ⟨c0, c1, c2, c3, c4, c5, hf⟩ := h2.cells
      have H2 := Lib.hid h2; clear h2
      clear c0 c2 c4
      go_wp2_with fail
      go_end0
      have hw2 := H2.out.wiped
      have h5 : DiskP (((wr.setCell ⟨d, 1, none⟩ (.slice none 0 0)).setCell ⟨d, 5, none⟩ (.bool false)).setCell ⟨d, 3, none⟩ (.int .i64 (-1))) d (restD D ks torn at_) S' bk (.slice none 0 0) av' H' := by
        unfold restD
        rw [← Hm.out]
        refine hw2.turn rfl rfl rfl rfl ⟨hw2.small.2.2.1, show (-1 : Int) ≤ -1 by decide, show (-1 : Int) ≤ 9223372036854775807 by decide⟩ (blk_set (blk_set hw2.hdr 5 _) 3 _) (fun k hk => ?_) (by simp only [size_set])
        rw [Below.heap_setCell _ _ _ _ (by simpa using hk), Below.heap_setCell _ _ _ _ (by simpa using hk)]
      refine ⟨rfl, S', ⟨_, av', H', h5⟩, ?_, fun j hj => ?_⟩
      · exact hf1.trans (((hfr.setCell (hSS d H2.out.ownS.1) _).setCell (hSS d H2.out.ownS.1) _).setCell (hSS d H2.out.ownS.1) _) (fun j hj => .inl hj)
      · rcases hSS j hj with hj | hj
        · exact .inl hj
        · exact .inr (by omega)

end
end Go.Proofs.Ytdjndeleafhglaa
namespace Go.Proofs.Ytdjndeleafhglaa
open Go.RowKit

/-- The last written at a place, or else z. -/
def lastW (z : List UInt8) (l : List (Nat × List UInt8)) (p : Int) : List UInt8 := l.foldl (fun a x => if (x.1 : Int) = p then x.2 else a) z
theorem lastW_snoc (z : List UInt8) (l : List (Nat × List UInt8)) (x : Nat × List UInt8) (p : Int) : lastW z (l ++ [x]) p = if (x.1 : Int) = p then x.2 else lastW z l p := by
  unfold lastW
  rw [List.foldl_append]
  rfl
theorem lastW_find (z : List UInt8) (p : Nat) (l : List (Nat × List UInt8)) : lastW z l (p : Int) = ((l.reverse.find? fun x => x.1 == p).map (·.2)).getD z := by
  have key : ∀ (m : List (Nat × List UInt8)), lastW z m.reverse (p : Int) = ((m.find? fun x => x.1 == p).map (·.2)).getD z := by
    intro m
    induction m with
    | nil => rfl
    | cons x m ih =>
      rw [List.reverse_cons, lastW_snoc, List.find?_cons]
      by_cases hx : x.1 = p
      · rw [if_pos (by omega)]
        simp [hx]
      · rw [if_neg (by omega), ih]
        have : (x.1 == p) = false := by simpa using hx
        rw [this]
  rw [← key l.reverse, List.reverse_reverse]
theorem readD_last (D : DS) (p : Nat) : readD D p = lastW (D.kept p) D.pend (p : Int) := by rw [lastW_find]; rfl

/-- What is kept is what was last written, or nothing yet. -/
def KeptOk (D : DS) : Prop := ∀ p, p < D.n → D.kept p = lastW zeros D.hist (p : Int)
theorem KeptOk.new (n : Nat) : KeptOk (newD n) := fun _ _ => rfl
theorem KeptOk.keep {D : DS} (h : KeptOk D) (p : Nat) (b : List UInt8) : KeptOk (keepD D p b) := fun q hq => by
  simp only [keepD]
  rw [lastW_snoc]
  by_cases hp : q = p
  · rw [if_pos hp, if_pos (by simp only; omega)]
  · rw [if_neg hp, if_neg (by simp only; omega)]
    exact h q hq
theorem KeptOk.same {D D' : DS} (h : KeptOk D) (hn : D'.n = D.n) (hk : D'.kept = D.kept) (hh : D'.hist = D.hist) : KeptOk D' := fun q hq => by
  rw [hk, hh]
  exact h q (by rw [← hn]; exact hq)

/-- What reading tells. -/
def readX (D : DS) (p : Int) : List UInt8 × Int := if D.down = true then ([], 12) else if p < 0 ∨ (D.n : Int) ≤ p then ([], 2) else (readD D p.toNat, 0)

/-- What putting tells, and the disk behind it. -/
def putD (D : DS) (p : Int) (b : List UInt8) : Int × DS := if p < 0 ∨ (D.n : Int) ≤ p then (2, D) else if b.length ≠ 512 then (4, D) else (0, keepD D p.toNat b)

theorem stepR_kept {D : DS} (ks : List Int) (torn : Int) (m : Nat) (x : Nat × List UInt8) (i : Nat) (h : KeptOk D) : KeptOk (stepR ks torn m D x i) := by
  unfold stepR
  split
  · exact h.keep _ _
  · split
    · exact h.keep _ _
    · exact h
theorem stepR_klen {D : DS} (ks : List Int) (torn : Int) (m : Nat) (x : Nat × List UInt8) (i : Nat) (hm : m ≤ 512) (hx : x.1 < D.n ∧ x.2.length = 512) (h : ∀ p, p < D.n → (D.kept p).length = 512) : ∀ p, p < D.n → ((stepR ks torn m D x i).kept p).length = 512 := by
  intro p hp
  unfold stepR
  have key : ∀ b : List UInt8, b.length = 512 → ((keepD D x.1 b).kept p).length = 512 := fun b hb => by
    simp only [keepD]
    split
    · exact hb
    · exact h p hp
  split
  · refine key _ ?_
    rw [List.length_append, List.length_take, List.length_drop, hx.2, h x.1 hx.1]
    omega
  · split
    · exact key _ hx.2
    · exact h p hp

/-- The disk has turned to D'; of what lay there nothing but its own has. -/
def Turn (S : Nat → Prop) (d : Nat) (D' : DS) (w w' : World) : Prop := ∃ S', DiskAt w' d D' S' ∧ Frame S w w' ∧ ∀ k, S' k → S k ∨ w.heap.size ≤ k

section
variable {w : World} {d : Nat} {D : DS} {S : Nat → Prop}

theorem Turn.still (h : DiskAt w d D S) : Turn S d D w w := ⟨S, h, Frame.refl _ _, fun _ h => .inl h⟩
theorem DiskAt.small (h : DiskAt w d D S) : D.n ≤ 1024 ∧ D.pend.length + D.hist.length ≤ 1000000 ∧ D.calls ≤ 1000000000 ∧ -1 ≤ D.fuse ∧ D.fuse ≤ 9223372036854775807 := by
  obtain ⟨bk, pv, av, H, hp⟩ := h
  exact hp.small
theorem DiskAt.plen (h : DiskAt w d D S) : ∀ p ∈ D.pend, p.1 < D.n ∧ p.2.length = 512 := by
  obtain ⟨bk, pv, av, H, hp⟩ := h
  exact hp.plen
theorem DiskAt.klen (h : DiskAt w d D S) : ∀ p, p < D.n → (D.kept p).length = 512 := by
  obtain ⟨bk, pv, av, H, hp⟩ := h
  exact hp.klen
theorem DiskAt.ltS (h : DiskAt w d D S) : ∀ k, S k → k < w.heap.size := by
  obtain ⟨bk, pv, av, H, hp⟩ := h
  exact hp.ltS

theorem DWrite_any (p : Int) (A : Option Addr) (n c : Nat) (b : List UInt8) (h : DiskAt w d D S) (hb : BytesAt w A n b) (hA : 0 < n → ∀ g o, A = some ⟨g, o, none⟩ → ¬ S g) (hsm : D.pend.length + D.hist.length + 1 ≤ 1000000) (hc : D.calls + 1 ≤ 1000000000) :
    Calls Try.prog 50 #[.pointer (some ⟨d, 0, none⟩), .int .i64 p, .slice A n c] w fun e w' => e = .returned (.int .i64 (writeD D p b).1) ∧ Turn S d (writeD D p b).2 w w' := by
  obtain ⟨bk, pv, av, H, hp⟩ := h
  unfold writeD
  by_cases hd : D.down = true
  · rw [if_pos hd]
    exact (Write_down p A n c hp hd).mono fun e w' ⟨he, hw⟩ => ⟨he, hw ▸ Turn.still ⟨bk, pv, av, H, hp⟩⟩
  · have hd' : D.down = false := by simpa using hd
    rw [if_neg hd]
    by_cases hr : p < 0 ∨ (D.n : Int) ≤ p
    · rw [if_pos hr]
      exact (Write_range p A n c hp hd' hr).mono fun e w' ⟨he, hw⟩ => ⟨he, hw ▸ Turn.still ⟨bk, pv, av, H, hp⟩⟩
    · rw [if_neg hr]
      by_cases hl : b.length = 512
      · rw [if_neg (by simp [hl])]
        obtain rfl : n = 512 := by rw [← hb.len, hl]
        obtain ⟨g, o, rfl, hg⟩ := hb.at_ (by decide)
        have hpp : ((p.toNat : Nat) : Int) = p := Int.toNat_of_nonneg (by omega)
        have := Write_yes p.toNat g o c b hp hd' (by omega) hl hg (hA (by decide) g o rfl) hsm hc
        rw [hpp] at this
        exact this.mono fun e w' ⟨he, S', pv', h1, h2, h3⟩ => ⟨he, S', ⟨bk, pv', av, H, h1⟩, h2, h3⟩
      · rw [if_pos hl]
        exact (Write_form p A n c hp hd' hr (by rw [← hb.len]; exact hl)).mono fun e w' ⟨he, hw⟩ => ⟨he, hw ▸ Turn.still ⟨bk, pv, av, H, hp⟩⟩

theorem DPut_any (p : Int) (A : Option Addr) (n c : Nat) (b : List UInt8) (h : DiskAt w d D S) (hb : BytesAt w A n b) (hsm : D.pend.length + D.hist.length + 1 ≤ 1000000) :
    Calls Try.prog 48 #[.pointer (some ⟨d, 0, none⟩), .int .i64 p, .slice A n c] w fun e w' => e = .returned (.int .i64 (putD D p b).1) ∧ Turn S d (putD D p b).2 w w' := by
  obtain ⟨bk, pv, av, H, hp⟩ := h
  unfold putD
  by_cases hr : p < 0 ∨ (D.n : Int) ≤ p
  · rw [if_pos hr]
    exact (Put_range p A n c hp hr).mono fun e w' ⟨he, hw⟩ => ⟨he, hw ▸ Turn.still ⟨bk, pv, av, H, hp⟩⟩
  · rw [if_neg hr]
    by_cases hl : b.length = 512
    · rw [if_neg (by simp [hl])]
      obtain rfl : n = 512 := by rw [← hb.len, hl]
      obtain ⟨g, o, rfl, hg⟩ := hb.at_ (by decide)
      have hpp : ((p.toNat : Nat) : Int) = p := Int.toNat_of_nonneg (by omega)
      have := Put_yes p.toNat g o c b hp (by omega) hl hg hsm
      rw [hpp] at this
      exact this.mono fun e w' ⟨he, S', av', H', h1, h2, h3⟩ => ⟨he, S', ⟨bk, pv, av', H', h1⟩, h2, h3⟩
    · rw [if_pos hl]
      exact (Put_form p A n c hp hr (by rw [← hb.len]; exact hl)).mono fun e w' ⟨he, hw⟩ => ⟨he, hw ▸ Turn.still ⟨bk, pv, av, H, hp⟩⟩

theorem DFlush_any (h : DiskAt w d D S) (hsm : 2 * D.pend.length + D.hist.length ≤ 1000000) (hc : D.calls + 1 ≤ 1000000000) :
    Calls Try.prog 81 #[.pointer (some ⟨d, 0, none⟩)] w fun e w' => e = .returned (.int .i64 (flushD D).1) ∧ Turn S d (flushD D).2 w w' := by
  obtain ⟨bk, pv, av, H, hp⟩ := h
  unfold flushD
  by_cases hd : D.down = true
  · rw [if_pos hd]
    exact (Flush_down hp hd).mono fun e w' ⟨he, hw⟩ => ⟨he, hw ▸ Turn.still ⟨bk, pv, av, H, hp⟩⟩
  · have hd' : D.down = false := by simpa using hd
    rw [if_neg hd]
    by_cases hb : (burnD D).1 = 0
    · rw [if_neg (by simp [hb])]
      exact (Flush_yes hp hd' hc hb hsm).mono fun e w' ⟨he, S', pv', av', H', h1, h2, h3⟩ => ⟨he, S', ⟨bk, pv', av', H', h1⟩, h2, h3⟩
    · rw [if_pos hb]
      exact (Flush_burnt hp hd' hc hb).mono fun e w' ⟨he, h1, h2⟩ => ⟨he, S, ⟨bk, pv, av, H, h1⟩, h2, fun _ h => .inl h⟩

theorem DArm_any (f : Int) (h : DiskAt w d D S) (hf1 : f ≤ 9223372036854775807) :
    Calls Try.prog 82 #[.pointer (some ⟨d, 0, none⟩), .int .i64 f] w fun e w' => e = .returned (.tuple #[]) ∧ Turn S d (armD D f) w w' := by
  obtain ⟨bk, pv, av, H, hp⟩ := h
  exact (Arm_any f hp hf1).mono fun e w' ⟨he, h1, h2⟩ => ⟨he, S, ⟨bk, pv, av, H, h1⟩, h2, fun _ h => .inl h⟩

theorem DRestart_any (A : Option Addr) (n c : Nat) (torn at_ : Int) (ks : List Int) (h : DiskAt w d D S) (hks : IntsAt w A n ks) (hkS : 0 < n → ∀ g o, A = some ⟨g, o, none⟩ → ¬ S g ∧ g < w.heap.size) (hkb : n ≤ 1000000)
    (hsm : 2 * D.pend.length + D.hist.length ≤ 1000000) :
    Calls Try.prog 51 #[.pointer (some ⟨d, 0, none⟩), .slice A n c, .int .i64 torn, .int .i64 at_] w fun e w' => e = .returned (.tuple #[]) ∧ Turn S d (restD D ks torn at_) w w' := by
  obtain ⟨bk, pv, av, H, hp⟩ := h
  exact (Restart_any A n c torn at_ ks hp hks hkS hkb hsm).mono fun e w' ⟨he, S', pv', av', H', h1, h2, h3⟩ => ⟨he, S', ⟨bk, pv', av', H', h1⟩, h2, h3⟩

theorem DRead_any (p : Int) (h : DiskAt w d D S) :
    Calls Try.prog 83 #[.pointer (some ⟨d, 0, none⟩), .int .i64 p] w fun e w' => ∃ A c, e = .returned (.tuple #[.slice A (readX D p).1.length c, .int .i64 (readX D p).2]) ∧ BytesAt w' A (readX D p).1.length (readX D p).1 ∧ (readX D p).1.length ≤ c ∧ (readX D p).1.length ≤ 512 ∧ Below w.heap.size w w' := by
  have hk := h.klen
  have hpl := h.plen
  obtain ⟨bk, pv, av, H, hp⟩ := h
  unfold readX
  by_cases hd : D.down = true
  · rw [if_pos hd]
    exact (Read_down p hp hd).mono fun e w' ⟨he, hb⟩ => ⟨none, 0, he, BytesAt.nil _, Nat.le_refl _, Nat.zero_le _, hb⟩
  · have hd' : D.down = false := by simpa using hd
    rw [if_neg hd]
    by_cases hr : p < 0 ∨ (D.n : Int) ≤ p
    · rw [if_pos hr]
      exact (Read_range p hp hd' hr).mono fun e w' ⟨he, hb⟩ => ⟨none, 0, he, BytesAt.nil _, Nat.le_refl _, Nat.zero_le _, hb⟩
    · rw [if_neg hr]
      have hpp : ((p.toNat : Nat) : Int) = p := Int.toNat_of_nonneg (by omega)
      have hl : (readD D p.toNat).length = 512 := by
        unfold readD
        cases hf : D.pend.reverse.find? (fun x => x.1 == p.toNat) with
        | none => exact hk _ (by omega)
        | some x => exact (hpl x (List.mem_reverse.1 (List.mem_of_find?_eq_some hf))).2
      have := Read_yes p.toNat hp hd' (by omega)
      rw [hpp] at this
      simp only [hl]
      exact this.mono fun e w' ⟨g, o, he, _, hg, hb⟩ => ⟨some ⟨g, o, none⟩, 512, he, ⟨hl, fun _ => ⟨g, o, rfl, hg⟩⟩, Nat.le_refl _, Nat.le_refl _, hb⟩

end
/-- No more than m. -/
structure Few (D : DS) (m : Nat) : Prop where
  rows : D.pend.length + D.hist.length ≤ m
  calls : D.calls ≤ m
  lo : -1 ≤ D.fuse
  hi : D.fuse ≤ 9223372036854775807
  plen : ∀ x ∈ D.pend, x.1 < D.n ∧ x.2.length = 512
  klen : ∀ p, p < D.n → (D.kept p).length = 512
  kept : KeptOk D

theorem Few.new (n : Nat) : Few (newD n) 0 := ⟨by simp [newD], by simp [newD], by simp [newD], by simp [newD], fun x hx => by simp [newD] at hx, fun p _ => zeros_len, KeptOk.new n⟩
theorem Few.mono {D : DS} {m m' : Nat} (h : Few D m) (hm : m ≤ m') : Few D m' := ⟨by have := h.rows; omega, by have := h.calls; omega, h.lo, h.hi, h.plen, h.klen, h.kept⟩

theorem burn_keeps (D : DS) : (burnD D).2.n = D.n ∧ (burnD D).2.kept = D.kept ∧ (burnD D).2.pend = D.pend ∧ (burnD D).2.hist = D.hist ∧ (burnD D).2.calls = D.calls + 1 := by
  unfold burnD
  split
  · exact ⟨rfl, rfl, rfl, rfl, rfl⟩
  · split <;> exact ⟨rfl, rfl, rfl, rfl, rfl⟩
theorem Few.burn {D : DS} {m : Nat} (h : Few D m) : Few (burnD D).2 (m + 1) := by
  obtain ⟨h1, h2, h3, h4, h5⟩ := burn_keeps D
  refine ⟨by rw [h3, h4]; have := h.rows; omega, by rw [h5]; have := h.calls; omega, ?_, ?_, by rw [h1, h3]; exact h.plen, by rw [h1, h2]; exact h.klen, h.kept.same h1 h2 h4⟩
  all_goals
    have := h.lo
    have := h.hi
    unfold burnD
    split
    · exact (by assumption)
    · split <;> simp only <;> omega
theorem Few.keep {D : DS} {m : Nat} (h : Few D m) (p : Nat) (b : List UInt8) (hb : b.length = 512) : Few (keepD D p b) (m + 1) := by
  refine ⟨by simp only [keepD, List.length_append, List.length_singleton]; have := h.rows; omega, by have := h.calls; simp only [keepD]; omega, h.lo, h.hi, h.plen, fun q hq => ?_, h.kept.keep p b⟩
  simp only [keepD]
  split
  · exact hb
  · exact h.klen q hq

theorem Few.write {D : DS} {m : Nat} (h : Few D m) (p : Int) (b : List UInt8) : Few (writeD D p b).2 (m + 1) := by
  unfold writeD
  split
  · exact h.mono (by omega)
  · split
    · exact h.mono (by omega)
    · split
      · exact h.mono (by omega)
      · rename_i h1 h2 h3
        have hp : Few { D with pend := D.pend ++ [(p.toNat, b)] } (m + 1) := ⟨by simp only [List.length_append, List.length_singleton]; have := h.rows; omega, by have := h.calls; simp only; omega, h.lo, h.hi, fun x hx => by
          rcases List.mem_append.1 hx with hx | hx
          · exact h.plen x hx
          · obtain rfl := List.mem_singleton.1 hx
            exact ⟨by simp only; omega, by simpa using h3⟩, h.klen, h.kept⟩
        obtain ⟨h1, h2, h3, h4, h5⟩ := burn_keeps { D with pend := D.pend ++ [(p.toNat, b)] }
        have hq := hp.burn
        exact ⟨by rw [h3, h4]; exact hp.rows, by rw [h5]; have := h.calls; simp only; omega, hq.lo, hq.hi, hq.plen, hq.klen, hq.kept⟩
theorem Few.put {D : DS} {m : Nat} (h : Few D m) (p : Int) (b : List UInt8) : Few (putD D p b).2 (m + 1) := by
  unfold putD
  split
  · exact h.mono (by omega)
  · split
    · exact h.mono (by omega)
    · rename_i h3
      exact h.keep _ _ (by simpa using h3)

theorem keepAll_kept (l : List (Nat × List UInt8)) : ∀ D : DS, KeptOk D → KeptOk (keepAll D l) := by
  induction l with
  | nil => intro D h; exact h
  | cons x l ih => intro D h; exact ih _ (h.keep _ _)
theorem keepAll_klen (l : List (Nat × List UInt8)) : ∀ D : DS, (∀ p, p < D.n → (D.kept p).length = 512) → (∀ x ∈ l, x.2.length = 512) → ∀ p, p < D.n → ((keepAll D l).kept p).length = 512 := by
  induction l with
  | nil => intro D h _; exact h
  | cons x l ih =>
    intro D h hl
    refine ih (keepD D x.1 x.2) (fun p hp => ?_) (fun y hy => hl y (List.mem_cons_of_mem _ hy))
    simp only [keepD]
    split
    · exact hl x List.mem_cons_self
    · exact h p hp
theorem Few.flush {D : DS} {m : Nat} (h : Few D m) : Few (flushD D).2 (m + 1) := by
  unfold flushD
  split
  · exact h.mono (by omega)
  · split
    · exact h.burn
    · have hb := h.burn
      obtain ⟨h1, h2, h3, h4, h5⟩ := burn_keeps D
      obtain ⟨a1, a2, a3, a4, a5, a6⟩ := keepAll_same D.pend (burnD D).2
      have hr := h.rows
      refine ⟨?_, ?_, ?_, ?_, fun x hx => by simp [wipeD] at hx, ?_, ?_⟩
      · simp only [wipeD, List.length_nil]
        rw [a3, h4, List.length_append]
        omega
      · simp only [wipeD]
        rw [a5]
        exact hb.calls
      · simp only [wipeD]
        rw [a4]
        exact hb.lo
      · simp only [wipeD]
        rw [a4]
        exact hb.hi
      · intro p hp
        simp only [wipeD] at hp ⊢
        rw [a1] at hp
        exact keepAll_klen _ _ hb.klen (fun x hx => (h.plen x hx).2) p hp
      · exact KeptOk.same (keepAll_kept D.pend _ hb.kept) rfl rfl rfl
theorem restFold_few (ks : List Int) (torn : Int) (m0 : Nat) (hm : m0 ≤ 512) (l : List ((Nat × List UInt8) × Nat)) : ∀ D : DS, KeptOk D → (∀ p, p < D.n → (D.kept p).length = 512) → (∀ x ∈ l, x.1.1 < D.n ∧ x.1.2.length = 512) →
    KeptOk (l.foldl (fun D x => stepR ks torn m0 D x.1 x.2) D) ∧ (∀ p, p < D.n → ((l.foldl (fun D x => stepR ks torn m0 D x.1 x.2) D).kept p).length = 512) ∧
      (l.foldl (fun D x => stepR ks torn m0 D x.1 x.2) D).n = D.n ∧ (l.foldl (fun D x => stepR ks torn m0 D x.1 x.2) D).calls = D.calls ∧ (l.foldl (fun D x => stepR ks torn m0 D x.1 x.2) D).hist.length ≤ D.hist.length + l.length := by
  induction l with
  | nil => intro D h1 h2 _; exact ⟨h1, h2, rfl, rfl, by simp⟩
  | cons x l ih =>
    intro D h1 h2 h3
    obtain ⟨s1, s2, s3, s4, s5, s6⟩ := stepR_same ks torn m0 D x.1 x.2
    obtain ⟨r1, r2, r3, r4, r5⟩ := ih (stepR ks torn m0 D x.1 x.2) (stepR_kept _ _ _ _ _ h1) (by rw [s1]; exact stepR_klen _ _ _ _ _ hm (h3 x List.mem_cons_self) h2) (by rw [s1]; exact fun y hy => h3 y (List.mem_cons_of_mem _ hy))
    rw [List.foldl_cons]
    rw [s1] at r2
    exact ⟨r1, r2, r3.trans s1, r4.trans s5, by rw [List.length_cons]; omega⟩
theorem Few.rest {D : DS} {m : Nat} (h : Few D m) (ks : List Int) (torn at_ : Int) : Few (restD D ks torn at_) m := by
  have hm0 := Int.emod_nonneg at_ (by decide : (513 : Int) ≠ 0)
  have hm1 := Int.emod_lt_of_pos at_ (by decide : (0 : Int) < 513)
  obtain ⟨r1, r2, r3, r4, r5⟩ := restFold_few ks torn (at_ % 513).toNat (by omega) D.pend.zipIdx D h.kept h.klen (fun x hx => h.plen _ (by
    obtain ⟨⟨a, b⟩, i⟩ := x
    have := List.mem_zipIdx hx
    simp only at this ⊢
    rw [this.2.2]
    exact List.getElem_mem _))
  rw [List.length_zipIdx] at r5
  have hr := h.rows
  unfold restD restAll
  refine ⟨?_, ?_, by simp only; omega, by simp only; omega, fun x hx => by simp at hx, ?_, ?_⟩
  · simp only [List.length_nil]
    omega
  · simp only
    rw [r4]
    exact h.calls
  · intro p hp
    simp only at hp ⊢
    rw [r3] at hp
    exact r2 p hp
  · exact KeptOk.same r1 rfl rfl rfl
theorem Few.arm {D : DS} {m : Nat} (h : Few D m) (f : Int) (hf : f ≤ 9223372036854775807) : Few (armD D f) m := ⟨h.rows, h.calls, by simp only [armD]; omega, by simp only [armD]; omega, h.plen, h.klen, h.kept⟩

end Go.Proofs.Ytdjndeleafhglaa
namespace Go.Proofs.Ytdjndeleafhglaa

/-- A number in k bytes, the greatest first. -/
def putB : Nat → Nat → List UInt8
  | 0, _ => []
  | k + 1, n => putB k (n / 256) ++ [UInt8.ofNat (n % 256)]
def getB (l : List UInt8) : Nat := l.foldl (fun n c => n * 256 + c.toNat) 0
def padB (l : List UInt8) (k : Nat) : List UInt8 := (l ++ List.replicate k 0).take k

theorem putB_length (k : Nat) : ∀ n, (putB k n).length = k := by
  induction k with
  | zero => intro n; rfl
  | succ k ih => intro n; simp [putB, ih]
theorem putB_cons (k : Nat) : ∀ n, putB (k + 1) n = UInt8.ofNat (n / 256 ^ k % 256) :: putB k n := by
  induction k with
  | zero => intro n; simp [putB]
  | succ k ih =>
    intro n
    rw [putB, ih, putB, Nat.div_div_eq_div_mul, Nat.pow_succ, Nat.mul_comm]
    rfl
theorem getB_snoc (l : List UInt8) (c : UInt8) : getB (l ++ [c]) = getB l * 256 + c.toNat := by simp [getB]
theorem getB_putB (k : Nat) : ∀ n, n < 256 ^ k → getB (putB k n) = n := by
  induction k with
  | zero => intro n h; simp at h; subst h; rfl
  | succ k ih =>
    intro n h
    rw [putB, getB_snoc, ih _ (by rw [Nat.pow_succ] at h; omega), UInt8.toNat_ofNat_of_lt' (by simp only [UInt8.size]; omega)]
    omega
theorem getB_lt (l : List UInt8) : getB l < 256 ^ l.length := by
  suffices h : ∀ m : List UInt8, getB m.reverse < 256 ^ m.length by
    have := h l.reverse
    simpa using this
  intro m
  induction m with
  | nil => simp [getB]
  | cons c m ih =>
    rw [List.reverse_cons, getB_snoc, List.length_cons, Nat.pow_succ]
    have := c.toNat_lt
    omega
theorem putB_getB (l : List UInt8) : putB l.length (getB l) = l := by
  suffices h : ∀ m : List UInt8, putB m.length (getB m.reverse) = m.reverse by
    have := h l.reverse
    simpa using this
  intro m
  induction m with
  | nil => rfl
  | cons c m ih =>
    rw [List.reverse_cons, getB_snoc, List.length_cons, putB]
    have := c.toNat_lt
    rw [show (getB m.reverse * 256 + c.toNat) / 256 = getB m.reverse by omega, ih, show (getB m.reverse * 256 + c.toNat) % 256 = c.toNat by omega]
    simp
theorem padB_length (l : List UInt8) (k : Nat) : (padB l k).length = k := by simp [padB]
theorem padB_le {l : List UInt8} {k : Nat} (h : l.length ≤ k) : padB l k = l ++ List.replicate (k - l.length) 0 := by
  rw [padB, List.take_append, List.take_of_length_le h, List.take_replicate, Nat.min_eq_left (by omega)]

/-- What stands in a sector. -/
structure Sec where
  kind : Int
  life : Nat
  seq : Int
  gen : Nat
  body : List UInt8
deriving DecidableEq

def secZero : Sec := ⟨0, 0, 0, 0, []⟩
/-- Why there may be no such sector (0: there may). -/
def rightS (p : Int) (x : Sec) : Int :=
  if x.kind < 1 ∨ 5 < x.kind ∨ p < 0 ∨ 1023 < p ∨ x.seq < 0 ∨ 1073741824 < x.seq then 2 else if 479 < x.body.length then 6 else 0
def headS (p : Int) (x : Sec) : List UInt8 := putB 1 x.kind.toNat ++ putB 2 p.toNat ++ putB 8 x.life ++ putB 4 x.seq.toNat ++ putB 8 x.gen ++ putB 2 x.body.length
def textS (p : Int) (x : Sec) : List UInt8 := padB (headS p x ++ x.body) 504
def readS (b : List UInt8) : Option Sec :=
  if 479 < getB ((b.drop 23).take 2) then none
  else some ⟨getB (b.take 1), getB ((b.drop 3).take 8), getB ((b.drop 11).take 4), getB ((b.drop 15).take 8), (b.drop 25).take (getB ((b.drop 23).take 2))⟩
/-- The sector of a text at a place. -/
def ofS (p : Int) (t : List UInt8) : Option Sec :=
  match readS t with
  | none => none
  | some x => if rightS p x = 0 ∧ textS p x = t then some x else none

theorem rightS_ok {p : Int} {x : Sec} : rightS p x = 0 ↔ 1 ≤ x.kind ∧ x.kind ≤ 5 ∧ 0 ≤ p ∧ p ≤ 1023 ∧ 0 ≤ x.seq ∧ x.seq ≤ 1073741824 ∧ x.body.length ≤ 479 := by
  unfold rightS
  split
  · simp; omega
  · split
    · simp; omega
    · simp; omega
theorem headS_length (p : Int) (x : Sec) : (headS p x).length = 25 := by simp [headS, putB_length]
theorem textS_length (p : Int) (x : Sec) : (textS p x).length = 504 := padB_length _ _
theorem textS_eq {p : Int} {x : Sec} (h : x.body.length ≤ 479) : textS p x = headS p x ++ (x.body ++ List.replicate (479 - x.body.length) 0) := by
  rw [textS, padB_le (by simp [headS_length]; omega), List.append_assoc]
  congr 3
  simp [headS_length]; omega

theorem part_of (a b c : List UInt8) (n m : Nat) (ha : a.length = n) (hb : b.length = m) : ((a ++ (b ++ c)).drop n).take m = b := by
  rw [List.drop_append, List.drop_of_length_le (by omega), ha, Nat.sub_self, List.drop_zero, List.nil_append, List.take_append, List.take_of_length_le (by omega), hb, Nat.sub_self, List.take_zero, List.append_nil]

/-- A text is read back. -/
theorem readS_textS {p : Int} {x : Sec} (h : rightS p x = 0) (hl : x.life < 18446744073709551616) (hg : x.gen < 18446744073709551616) (s : List UInt8) : readS (textS p x ++ s) = some x := by
  obtain ⟨h1, h2, h3, h4, h5, h6, h7⟩ := rightS_ok.1 h
  rw [textS_eq h7]
  have e1 : (headS p x ++ (x.body ++ List.replicate (479 - x.body.length) 0) ++ s).take 1 = putB 1 x.kind.toNat := by
    have := part_of [] (putB 1 x.kind.toNat) (putB 2 p.toNat ++ putB 8 x.life ++ putB 4 x.seq.toNat ++ putB 8 x.gen ++ putB 2 x.body.length ++ (x.body ++ List.replicate (479 - x.body.length) 0) ++ s) 0 1 rfl (putB_length _ _)
    simpa [headS, List.append_assoc] using this
  have e2 : ((headS p x ++ (x.body ++ List.replicate (479 - x.body.length) 0) ++ s).drop 3).take 8 = putB 8 x.life := by
    have := part_of (putB 1 x.kind.toNat ++ putB 2 p.toNat) (putB 8 x.life) (putB 4 x.seq.toNat ++ putB 8 x.gen ++ putB 2 x.body.length ++ (x.body ++ List.replicate (479 - x.body.length) 0) ++ s) 3 8 (by simp [putB_length]) (putB_length _ _)
    simpa only [headS, List.append_assoc] using this
  have e3 : ((headS p x ++ (x.body ++ List.replicate (479 - x.body.length) 0) ++ s).drop 11).take 4 = putB 4 x.seq.toNat := by
    have := part_of (putB 1 x.kind.toNat ++ putB 2 p.toNat ++ putB 8 x.life) (putB 4 x.seq.toNat) (putB 8 x.gen ++ putB 2 x.body.length ++ (x.body ++ List.replicate (479 - x.body.length) 0) ++ s) 11 4 (by simp [putB_length]) (putB_length _ _)
    simpa only [headS, List.append_assoc] using this
  have e4 : ((headS p x ++ (x.body ++ List.replicate (479 - x.body.length) 0) ++ s).drop 15).take 8 = putB 8 x.gen := by
    have := part_of (putB 1 x.kind.toNat ++ putB 2 p.toNat ++ putB 8 x.life ++ putB 4 x.seq.toNat) (putB 8 x.gen) (putB 2 x.body.length ++ (x.body ++ List.replicate (479 - x.body.length) 0) ++ s) 15 8 (by simp [putB_length]) (putB_length _ _)
    simpa only [headS, List.append_assoc] using this
  have e5 : ((headS p x ++ (x.body ++ List.replicate (479 - x.body.length) 0) ++ s).drop 23).take 2 = putB 2 x.body.length := by
    have := part_of (putB 1 x.kind.toNat ++ putB 2 p.toNat ++ putB 8 x.life ++ putB 4 x.seq.toNat ++ putB 8 x.gen) (putB 2 x.body.length) ((x.body ++ List.replicate (479 - x.body.length) 0) ++ s) 23 2 (by simp [putB_length]) (putB_length _ _)
    simpa only [headS, List.append_assoc] using this
  have e6 : ((headS p x ++ (x.body ++ List.replicate (479 - x.body.length) 0) ++ s).drop 25).take x.body.length = x.body := by
    have := part_of (headS p x) x.body (List.replicate (479 - x.body.length) 0 ++ s) 25 x.body.length (headS_length _ _) rfl
    simpa only [List.append_assoc] using this
  unfold readS
  rw [e5, getB_putB 2 _ (by omega), if_neg (by omega), e1, e2, e3, e4, e6, getB_putB 1 _ (by omega), getB_putB 8 _ (by omega), getB_putB 4 _ (by omega), getB_putB 8 _ (by omega)]
  obtain ⟨k, l, q, g, b⟩ := x
  simp only at *
  rw [show (k.toNat : Int) = k by omega, show (q.toNat : Int) = q by omega]
theorem readS_textS' {p : Int} {x : Sec} (h : rightS p x = 0) (hl : x.life < 18446744073709551616) (hg : x.gen < 18446744073709551616) : readS (textS p x) = some x := by
  have := readS_textS h hl hg []
  simpa using this
theorem ofS_textS {p : Int} {x : Sec} (h : rightS p x = 0) (hl : x.life < 18446744073709551616) (hg : x.gen < 18446744073709551616) : ofS p (textS p x) = some x := by
  unfold ofS
  rw [readS_textS' h hl hg]
  simp [h]
theorem ofS_some {p : Int} {t : List UInt8} {x : Sec} (h : ofS p t = some x) : rightS p x = 0 ∧ textS p x = t ∧ readS t = some x := by
  unfold ofS at h
  split at h
  · cases h
  · rename_i y hy
    split at h
    · rename_i hc
      obtain rfl := Option.some.inj h
      exact ⟨hc.1, hc.2, hy⟩
    · cases h
/-- What was written at a place is none at another. -/
theorem ofS_other {p q : Int} {x : Sec} (h : rightS p x = 0) (hpq : q ≠ p) : ofS q (textS p x) = none := by
  cases hq : ofS q (textS p x) with
  | none => rfl
  | some y =>
    exfalso
    obtain ⟨h1, h2, _⟩ := ofS_some hq
    obtain ⟨a1, a2, a3, a4, a5, a6, a7⟩ := rightS_ok.1 h
    obtain ⟨b1, b2, b3, b4, b5, b6, b7⟩ := rightS_ok.1 h1
    rw [textS_eq a7, textS_eq b7] at h2
    have e : ∀ (z : Sec) (r : Int) (c : List UInt8), ((headS r z ++ c).drop 1).take 2 = putB 2 r.toNat := fun z r c => by
      have := part_of (putB 1 z.kind.toNat) (putB 2 r.toNat) (putB 8 z.life ++ putB 4 z.seq.toNat ++ putB 8 z.gen ++ putB 2 z.body.length ++ c) 1 2 (putB_length _ _) (putB_length _ _)
      simpa only [headS, List.append_assoc] using this
    have := congrArg (fun l => getB ((l.drop 1).take 2)) h2
    simp only [e] at this
    rw [getB_putB 2 _ (by omega), getB_putB 2 _ (by omega)] at this
    omega
theorem readS_gen {b : List UInt8} {x : Sec} (h : readS b = some x) : x.life < 18446744073709551616 ∧ x.gen < 18446744073709551616 := by
  unfold readS at h
  split at h
  · cases h
  · obtain rfl := Option.some.inj h
    have lt : ∀ l : List UInt8, l.length ≤ 8 → getB l < 18446744073709551616 := fun l hl => by
      have h1 := getB_lt l
      have h2 : 256 ^ l.length ≤ 256 ^ 8 := Nat.pow_le_pow_right (by omega) hl
      omega
    exact ⟨lt _ (by simp; omega), lt _ (by simp; omega)⟩

/-- Sums of 32 bits. -/
def stepC (c : Nat) : Nat := if c % 2 = 1 then (c / 2) ^^^ 3988292384 else c / 2
def stepsC : Nat → Nat → Nat
  | 0, c => c
  | k + 1, c => stepC (stepsC k c)
def runC (c : Nat) (b : List UInt8) : Nat := b.foldl (fun c x => stepsC 8 (c ^^^ x.toNat)) c
def sumC (b : List UInt8) : Nat := runC 4294967295 b ^^^ 4294967295
def crcB (b : List UInt8) : List UInt8 := putB 8 (sumC b)
theorem stepC_lt {c : Nat} (h : c < 4294967296) : stepC c < 4294967296 := by
  unfold stepC
  split
  · exact Nat.xor_lt_two_pow (n := 32) (by omega) (by omega)
  · omega
theorem stepsC_lt {c : Nat} (h : c < 4294967296) : ∀ k, stepsC k c < 4294967296
  | 0 => h
  | k + 1 => stepC_lt (stepsC_lt h k)
theorem xor_lt32 {a b : Nat} (h : a < 4294967296) (h' : b < 4294967296) : a ^^^ b < 4294967296 := Nat.xor_lt_two_pow (n := 32) (by omega) (by omega)
theorem runC_lt (b : List UInt8) : ∀ {c : Nat}, c < 4294967296 → runC c b < 4294967296 := by
  induction b with
  | nil => intro c h; exact h
  | cons x b ih =>
    intro c h
    have := x.toNat_lt
    exact ih (stepsC_lt (xor_lt32 h (by omega)) 8)
theorem runC_snoc (c : Nat) (b : List UInt8) (x : UInt8) : runC c (b ++ [x]) = stepsC 8 (runC c b ^^^ x.toNat) := by simp [runC]
theorem sumC_lt (b : List UInt8) : sumC b < 4294967296 := xor_lt32 (runC_lt b (by omega)) (by omega)
theorem crcB_length (b : List UInt8) : (crcB b).length = 8 := putB_length _ _

def blankS : List UInt8 := List.replicate 512 0

end Go.Proofs.Ytdjndeleafhglaa
namespace Go.Proofs.Ytdjndeleafhglaa
open Go.RowKit

theorem putB_step (k j n : Nat) (h : j < k) : putB j (n / 256 ^ (k - j)) ++ [UInt8.ofNat (n / 256 ^ (k - 1 - j) % 256)] = putB (j + 1) (n / 256 ^ (k - (j + 1))) := by
  rw [putB, Nat.div_div_eq_div_mul, show k - (j + 1) = k - 1 - j by omega, show k - j = (k - 1 - j) + 1 by omega, Nat.pow_succ]

set_option maxRecDepth 100000 in
set_option maxHeartbeats 1000000 in
theorem NPut_any (n k : Nat) (w : World) (h1 : 1 ≤ k) (h8 : k ≤ 8) :
    Calls Try.prog 182 #[.int .u64 (n : Int), .int .i64 (k : Int)] w fun e w' => ∃ A c, e = .returned (.slice A k c) ∧ w'.ownsRow w.heap.size 5 1 (.slice A k c) k (bytesV (putB k n)) ∧ Below w.heap.size w w' := by
  have d1 : decide ((k : Int) < 1) = false := by simp; omega
  have d2 : decide ((8 : Int) < (k : Int)) = false := by simp; omega
  go_enter Try.func182, Try.ntmps182
  go_wp2
  go_step3
  go_wp2
  go_step3
  go_wp2
  go_loopw [4, 5] (fun v i wr => ∃ j : Nat, j ≤ k ∧ i = .int .i64 ((k : Int) - 1 - (j : Int)) ∧ wr.ownsRow w.heap.size 5 1 v j (bytesV (putB j (n / 256 ^ (k - j)))) ∧ Below w.heap.size w wr) (fun _ i _ => (intOf i + 1).toNat)
  case atStart => exact ⟨0, by omega, by simp, by simpa [putB, bytesV] using World.ownsRow_nil _ _ _ _, by ((repeat (first | (with_reducible exact Bnil _) | (with_reducible assumption) | (with_reducible refine Bset ?_ ?_ _) | (with_reducible refine Bnew ?_ _) | (with_reducible refine Bdrew ?_) | (with_reducible refine Bthen ?_ (by assumption)))); all_goals (simp; try omega))⟩
  case round =>
    obtain ⟨j, hj, rfl, hown, hbel⟩ := hrel
    by_cases hlt : j < k
    · have hi0 : ¬ ((k : Int) - 1 - (j : Int) < 0) := by omega
      obtain ⟨i0, hi, hz0, hz1, hz2⟩ := info_parts info_byte
      go_wp2_with (at_builtin; refine wpList_append_own _ rfl _ _ 41 rfl w.heap.size 5 i0 (.int .u8 0) 1 1 Try.underlying41 hi hz0 hz1 hz2 rfl (by decide) _ _ _ rfl (hown.alloc _) ⟨wr.heap.size, 0, none⟩ 1 1 [.int .u8 ((n : Int) / 2 ^ (8 * (k - 1 - j)) % 256)] rfl rfl (cell_one_new _ _ _) ?qc3 ?qc4 ?qc5 ?qc6 ?_)
      case qc3 => simp [Value.oneCell']
      case qc4 => unfold maxLen; omega
      case qc5 => omega
      case qc6 => have := hbel.size; simp; omega
      intro v' w1 hown' hgrow hne
      have hb1 : Below w.heap.size w w1 := (Bnew hbel _).grown hgrow (by have := hbel.size; simp; omega) (fun q hq => (hown.lt q hq).1)
      have e8 : (n : Int) / 2 ^ (8 * (k - 1 - j)) % 256 = ((UInt8.ofNat (n / 256 ^ (k - 1 - j) % 256)).toNat : Int) := by
        rw [UInt8.toNat_ofNat_of_lt' (by simp only [UInt8.size]; omega), show (256 : Nat) ^ (k - 1 - j) = 2 ^ (8 * (k - 1 - j)) by rw [Nat.pow_mul]]
        simp
      have hown2 : w1.ownsRow w.heap.size 5 1 v' (j + 1) (bytesV (putB (j + 1) (n / 256 ^ (k - (j + 1))))) := by
        rw [e8] at hown'
        rw [← putB_step k j n hlt]
        simpa [bytesV] using hown'
      clear hown' hgrow hne hown
      go_wp2_with fail
      go_roundw
      case rel => exact ⟨j + 1, by omega, by congr 1; omega, hown2, hb1⟩
      case measure => simp [intOf]; omega
    · obtain rfl : j = k := by omega
      have hi0 : (j : Int) - 1 - (j : Int) < 0 := by omega
      obtain ⟨g, cap, rfl⟩ : ∃ g cap, u4 = .slice g j cap := by
        rcases hown.2 with ⟨rfl, rfl⟩ | ⟨g, cap, _, rfl, _⟩
        · exact ⟨_, _, rfl⟩
        · exact ⟨_, _, rfl⟩
      rw [Nat.sub_self, Nat.pow_zero, Nat.div_one] at hown
      go_wp2_with fail
      try rw [Exit.noGoto_ret]
      go_ret
      exact ⟨_, _, rfl, hown, hbel⟩

theorem or_byte (a b : Nat) (ha : a < 72057594037927936) (hb : b < 256) : bits .or .u64 (IntKind.u64.wrap ((a : Int) * 256)) (IntKind.u64.wrap (b : Int)) = ((a * 256 + b : Nat) : Int) := by
  have w64 : ∀ n : Int, 0 ≤ n → n < 2 ^ 64 → IntKind.u64.wrap n = n := fun n h0 h1 => by
    simp [IntKind.wrap, IntKind.bits, IntKind.signed]; omega
  rw [w64 _ (by omega) (by omega), w64 _ (by omega) (by omega), bits_join .u64 64 (by decide) w64 8 _ _ (by omega) (by omega) (by omega) (by omega) (by omega) (by omega)]
  omega
theorem size_byte1 : (Try.prog.info? 5).map (·.size) = some 1 := by kernel_rfl

set_option maxRecDepth 100000 in
set_option maxHeartbeats 1000000 in
theorem NPad_any (A : Option Addr) (n c k : Nat) (l : List UInt8) (w : World) (hb : BytesAt w A n l) (h0 : 0 < n) (h1 : 1 ≤ k) (h2 : k ≤ 65536) :
    Calls Try.prog 149 #[.slice A n c, .int .i64 (k : Int)] w fun e w' => e = .returned (.slice (some ⟨w.heap.size, 0, none⟩) k k) ∧ w'.heap[w.heap.size]? = some (.cells (bytesV (padB l k)).toArray 5 (0, 0)) ∧ Below w.heap.size w w' := by
  obtain ⟨i0, hi, hz0, hz1, hz2⟩ := info_parts info_byte
  obtain ⟨g, o, rfl, hr⟩ := hb.at_ h0
  have hlen := hb.len
  have hmk := run_make (P := Try.prog) w 41 5 i0 _ Try.underlying41 hi hz0 .i64 .i64 (k : Int) (k : Int) (by omega) (by omega) (by rw [hz2]; omega) (by omega)
  rw [hz1, Int.toNat_natCast] at hmk
  have hC : madeCells (Value.cells (.int .u8 0)) (k * 1) = Array.replicate k (.int .u8 0) := by
    apply Array.ext_getElem?
    intro j
    by_cases hj : j < k
    · simp [madeCells, Value.cells, hj, Nat.mod_one]
    · rw [Array.getElem?_eq_none (by simp [madeCells]; omega), Array.getElem?_eq_none (by simp; omega)]
  rw [hC] at hmk
  have d1 : decide ((k : Int) < 1) = false := by simp; omega
  have d2 : decide ((65536 : Int) < (k : Int)) = false := by simp; omega
  have d3 : ¬ ((k : Int) < 1) := by omega
  have d4 : ¬ ((65536 : Int) < (k : Int)) := by omega
  have hgl : g < w.heap.size := rangeAt_lt hr (by rw [bytesV_length, hlen]; exact h0)
  have Hr := Lib.hid hr; clear hr hb
  have Hlen := Lib.hid hlen; clear hlen
  obtain ⟨Z, hZ⟩ : ∃ Z : Array Value, Z = Array.replicate k (.int .u8 0) := ⟨_, rfl⟩
  rw [← hZ] at hmk
  have hcs : (bytesV (l.take k)).length = Nat.min n k := by rw [bytesV_length, List.length_take, Hlen.out, Nat.min_comm]
  have hpad : (bytesV (l.take k) ++ Z.toList.drop (bytesV (l.take k)).length).toArray = (bytesV (padB l k)).toArray := by
    congr 1
    rw [bytesV_length, List.length_take, Hlen.out, padB, List.take_append, Hlen.out, List.take_replicate, hZ]
    simp [bytesV, List.map_replicate]
    omega
  have hnew : (w.alloc (.cells Z 5)).heap[w.heap.size]? = some (.cells Z 5 (0, 0)) := heap_alloc_new w _
  have hsrc : ∀ j v, (bytesV (l.take k))[j]? = some v → (w.alloc (.cells Z 5)).cell? ((⟨g, o, none⟩ : Addr).add j) = some v := fun j v hv => by
    rw [Addr.add_mid]
    have h2 : (bytesV l)[j]? = some v := by
      unfold bytesV at hv ⊢
      rw [List.map_take, List.getElem?_take] at hv
      split at hv
      · exact hv
      · cases hv
    exact ((Bbox w _).cell (p := ⟨g, o + j, none⟩) hgl).trans (Hr.out j v h2)
  have hfit : 0 + (bytesV (l.take k)).length ≤ Z.size := by rw [hcs, hZ, Array.size_replicate, Nat.zero_add]; exact Nat.min_le_right _ _
  have hrow : ∀ cs, ((w.alloc (.cells Z 5)).setRow w.heap.size cs).heap[w.heap.size]? = some (.cells cs 5 (0, 0)) := fun cs => setRow_heap _ _ _ _ _ _ hnew
  have hbel : ∀ cs, Below w.heap.size w ((w.alloc (.cells Z 5)).setRow w.heap.size cs) := fun cs => below_setRow (Bbox _ _) (Nat.le_refl _) _
  have Hrow := Lib.hid hrow; clear hrow
  have Hbel := Lib.hid hbel; clear hbel
  have Hcs := Lib.hid hcs; clear hcs
  have Hpad := Lib.hid hpad; clear hpad
  have Hnew := Lib.hid hnew; clear hnew
  have Hsrc := Lib.hid hsrc; clear hsrc
  have Hfit := Lib.hid hfit; clear hfit
  have HZ := Lib.hid hZ; clear hZ
  go_enter Try.func149, Try.ntmps149
  go_wp2_with (with_reducible refine wpList_copy_own rfl _ _ 41 41 rfl 5 Try.underlying41 size_byte1 w.heap.size 0 k k ⟨g, o, none⟩ n c rfl rfl Z 5 Hnew.out (bytesV (l.take k)) Hcs.out Hsrc.out Hfit.out (bytesV_one _) ?_)
  rw [Hpad.out]
  go_ret
  exact ⟨rfl, Hrow.out _, Hbel.out _⟩

set_option maxRecDepth 100000 in
set_option maxHeartbeats 1000000 in
theorem NGet_any (A : Option Addr) (n c : Nat) (l : List UInt8) (w : World) (hb : BytesAt w A n l) (h0 : 0 < n) (h8 : n ≤ 8) :
    Calls Try.prog 196 #[.slice A n c] w fun e w' => e = .returned (.tuple #[.int .u64 (getB l : Int), .int .i64 0]) ∧ w = w' := by
  obtain ⟨g, o, rfl, hr⟩ := hb.at_ h0
  have hlen := hb.len
  have d1 : ((n : Int) == 0) = false := by simp; omega
  have d2 : decide ((8 : Int) < (n : Int)) = false := by simp; omega
  have Hr := Lib.hid hr; clear hr hb
  have Hlen := Lib.hid hlen; clear hlen
  go_enter Try.func196, Try.ntmps196
  go_wp2_with fail
  go_loop [2, 16] (fun v i => ∃ j : Nat, j ≤ n ∧ i = .int .i64 (j : Int) ∧ v = .int .u64 (getB (l.take j) : Int)) (fun _ i => n - (intOf i).toNat)
  case atStart => exact ⟨0, by omega, rfl, rfl⟩
  case round =>
    obtain ⟨j, hj, rfl, rfl⟩ := hrel
    have hlt8 := getB_lt (l.take j)
    by_cases hlt : j < n
    · obtain ⟨x, hx⟩ : ∃ x, l[j]? = some x := ⟨_, List.getElem?_eq_getElem (by rw [Hlen.out]; exact hlt)⟩
      have hxa := Hr.out j (.int .u8 (x.toNat : Int)) (by simp [bytesV, hx])
      have hkn : (j : Int) < (n : Int) := by omega
      have hb8 : getB (l.take j) < 72057594037927936 := by
        rw [List.length_take, Hlen.out, Nat.min_eq_left (by omega)] at hlt8
        have : 256 ^ j ≤ 256 ^ 7 := Nat.pow_le_pow_right (by omega) (by omega)
        omega
      have hor := or_byte (getB (l.take j)) x.toNat hb8 x.toNat_lt
      have hsn : getB (l.take (j + 1)) = getB (l.take j) * 256 + x.toNat := by
        rw [List.take_add_one, hx]; exact getB_snoc _ _
      have Hor := Lib.hid hor; clear hor
      have Hsn := Lib.hid hsn; clear hsn
      have Hx := Lib.hid hx; clear hx hlt8 hb8
      go_wp2_with fail
      exact ⟨⟨j + 1, by omega, by go_num, by rw [Hor.out, Hsn.out]⟩, by simp [intOf]; omega⟩
    · obtain rfl : j = n := by omega
      have hkn : ¬ (j : Int) < (j : Int) := by omega
      have hl : l.take j = l := List.take_of_length_le (by rw [Hlen.out]; omega)
      have Hl := Lib.hid hl; clear hl
      go_wp2_with fail
      go_ret2
      exact ⟨by rw [show getB l = getB (l.take j) by rw [Hl.out]]; rfl, rfl⟩

end Go.Proofs.Ytdjndeleafhglaa
namespace Go.Proofs.Ytdjndeleafhglaa

/-- The sum of number n among all. -/
def markB (n : Nat) : List UInt8 := 255 :: 253 :: putB 6 n
theorem markB_length (n : Nat) : (markB n).length = 8 := by simp [markB, putB_length]
theorem markB_inj {n m : Nat} (hn : n < 281474976710656) (hm : m < 281474976710656) (h : markB n = markB m) : n = m := by
  have h2 : putB 6 n = putB 6 m := by simpa [markB] using h
  have h3 := congrArg getB h2
  rwa [getB_putB 6 n (by omega), getB_putB 6 m (by omega)] at h3
/-- What was summed, each once, in order: number of a text, and what was summed behind it. -/
def sumU (U : List (List UInt8)) (t : List UInt8) : Nat × List (List UInt8) := if t ∈ U then (U.idxOf t, U) else (U.length, U ++ [t])
def checkU (U : List (List UInt8)) (t s : List UInt8) : Bool := decide (t ∈ U) && decide (markB (U.idxOf t) = s)
theorem sumU_mem (U : List (List UInt8)) (t : List UInt8) : t ∈ (sumU U t).2 := by
  unfold sumU; split <;> simp [*]
theorem sumU_idx (U : List (List UInt8)) (t : List UInt8) : (sumU U t).2.idxOf t = (sumU U t).1 := by
  unfold sumU
  split
  · rfl
  · rename_i h
    simp [List.idxOf_append, h]
theorem sumU_lt (U : List (List UInt8)) (t : List UInt8) : (sumU U t).1 < (sumU U t).2.length := by
  rw [← sumU_idx]; exact List.idxOf_lt_length_of_mem (sumU_mem U t)
theorem sumU_pre (U : List (List UInt8)) (t : List UInt8) : U <+: (sumU U t).2 := by
  unfold sumU; split
  · exact List.prefix_rfl
  · exact List.prefix_append _ _
theorem sumU_length (U : List (List UInt8)) (t : List UInt8) : (sumU U t).2.length ≤ U.length + 1 := by
  unfold sumU; split <;> simp
theorem idxOf_pre {U V : List (List UInt8)} (h : U <+: V) {t : List UInt8} (ht : t ∈ U) : V.idxOf t = U.idxOf t := by
  obtain ⟨r, rfl⟩ := h
  simp [List.idxOf_append, ht]
theorem nodup_sumU {U : List (List UInt8)} (h : U.Nodup) (t : List UInt8) : (sumU U t).2.Nodup := by
  unfold sumU; split
  · exact h
  · rename_i hn
    rw [List.nodup_append]
    exact ⟨h, by simp, fun a ha b hb => by simp at hb; subst hb; rintro rfl; exact hn ha⟩

/-- The bytes of a sector, and what was summed behind it. -/
def encU (U : List (List UInt8)) (p : Int) (x : Sec) : List UInt8 × List (List UInt8) := (textS p x ++ markB (sumU U (textS p x)).1, (sumU U (textS p x)).2)
/-- What is read of bytes. -/
def decU (U : List (List UInt8)) (p : Int) (b : List UInt8) : Int × Sec :=
  if b.length ≠ 512 then (4, secZero) else if b = blankS then (7, secZero) else
    match ofS p (b.take 504) with
    | none => (11, secZero)
    | some x => if checkU U (b.take 504) (b.drop 504) = true then (0, x) else (11, secZero)
/-- What bytes are by real sums. -/
def decR (p : Int) (b : List UInt8) : Int × Sec :=
  if b.length ≠ 512 then (4, secZero) else if b = blankS then (7, secZero) else
    match ofS p (b.take 504) with
    | none => (11, secZero)
    | some x => if crcB (b.take 504) = b.drop 504 then (0, x) else (11, secZero)

theorem textS_head (p : Int) (x : Sec) (h : rightS p x = 0) (s : List UInt8) : textS p x ++ s ≠ blankS := by
  intro e
  obtain ⟨h1, h2, h3, h4, h5, h6, h7⟩ := rightS_ok.1 h
  have h8 := congrArg (fun l => getB (l.take 1)) e
  rw [textS_eq h7] at h8
  have e1 : (headS p x ++ (x.body ++ List.replicate (479 - x.body.length) 0) ++ s).take 1 = putB 1 x.kind.toNat := by
    have := part_of [] (putB 1 x.kind.toNat) (putB 2 p.toNat ++ putB 8 x.life ++ putB 4 x.seq.toNat ++ putB 8 x.gen ++ putB 2 x.body.length ++ (x.body ++ List.replicate (479 - x.body.length) 0) ++ s) 0 1 rfl (putB_length _ _)
    simpa [headS, List.append_assoc] using this
  simp only [e1] at h8
  rw [getB_putB 1 _ (by omega)] at h8
  have : getB (blankS.take 1) = 0 := by unfold blankS; rw [List.take_replicate]; rfl
  omega

theorem encU_length (U : List (List UInt8)) (p : Int) (x : Sec) : (encU U p x).1.length = 512 := by simp [encU, textS_length, markB_length]
theorem encU_take (U : List (List UInt8)) (p : Int) (x : Sec) : (encU U p x).1.take 504 = textS p x := by
  unfold encU
  exact List.take_left' (textS_length p x)
theorem encU_drop (U : List (List UInt8)) (p : Int) (x : Sec) : (encU U p x).1.drop 504 = markB (sumU U (textS p x)).1 := by
  unfold encU
  exact List.drop_left' (textS_length p x)
/-- What is written is read. -/
theorem decU_enc {U : List (List UInt8)} {p : Int} {x : Sec} (h : rightS p x = 0) (hl : x.life < 18446744073709551616) (hg : x.gen < 18446744073709551616) {V : List (List UInt8)} (hV : (encU U p x).2 <+: V) :
    decU V p (encU U p x).1 = (0, x) := by
  unfold decU
  rw [if_neg (by rw [encU_length]; simp), if_neg (show ¬ (encU U p x).1 = blankS from textS_head p x h _), encU_take, encU_drop, ofS_textS h hl hg]
  have hm := sumU_mem U (textS p x)
  have hV' : (sumU U (textS p x)).2 <+: V := hV
  have : checkU V (textS p x) (markB (sumU U (textS p x)).1) = true := by
    unfold checkU
    rw [idxOf_pre hV' hm, sumU_idx]
    simp [hV'.subset hm]
  simp only [this, if_true]
/-- .. at its place alone. -/
theorem decU_other {U : List (List UInt8)} {p q : Int} {x : Sec} (h : rightS p x = 0) (hpq : q ≠ p) (V : List (List UInt8)) : decU V q (encU U p x).1 = (11, secZero) := by
  unfold decU
  rw [if_neg (by rw [encU_length]; simp), if_neg (show ¬ (encU U p x).1 = blankS from textS_head p x h _), encU_take, ofS_other h hpq]
/-- What is read: its text was summed, and bears that sum. -/
theorem decU_ok {U : List (List UInt8)} {p : Int} {b : List UInt8} {x : Sec} (h : decU U p b = (0, x)) :
    b.length = 512 ∧ b ≠ blankS ∧ rightS p x = 0 ∧ b.take 504 = textS p x ∧ textS p x ∈ U ∧ b.drop 504 = markB (U.idxOf (textS p x)) := by
  unfold decU at h
  split at h
  · simp at h
  · split at h
    · simp at h
    · rename_i h1 h2
      split at h
      · simp at h
      · rename_i y hy
        split at h
        · rename_i hc
          obtain rfl : y = x := by simpa using h
          obtain ⟨a1, a2, a3⟩ := ofS_some hy
          unfold checkU at hc
          simp only [Bool.and_eq_true, decide_eq_true_eq] at hc
          rw [a2]
          exact ⟨by omega, h2, a1, rfl, hc.1, hc.2.symm⟩
        · simp at h
theorem decU_bytes {U : List (List UInt8)} {p : Int} {b : List UInt8} {x : Sec} (h : decU U p b = (0, x)) : b = textS p x ++ markB (U.idxOf (textS p x)) := by
  obtain ⟨_, _, _, h1, _, h2⟩ := decU_ok h
  rw [← h2, ← h1, List.take_append_drop]
theorem decU_cases (U : List (List UInt8)) (p : Int) (b : List UInt8) : (∃ x, decU U p b = (0, x)) ∨ ((decU U p b).1 ≠ 0 ∧ (decU U p b).2 = secZero) := by
  unfold decU
  split
  · exact .inr (by simp)
  · split
    · exact .inr (by simp)
    · split
      · exact .inr (by simp)
      · split
        · exact .inl ⟨_, rfl⟩
        · exact .inr (by simp)
theorem decR_cases (p : Int) (b : List UInt8) : (∃ x, decR p b = (0, x)) ∨ ((decR p b).1 ≠ 0 ∧ (decR p b).2 = secZero) := by
  unfold decR
  split
  · exact .inr (by simp)
  · split
    · exact .inr (by simp)
    · split
      · exact .inr (by simp)
      · split
        · exact .inl ⟨_, rfl⟩
        · exact .inr (by simp)
/-- What was read is read still, whatever was summed since. -/
theorem decU_mono {U V : List (List UInt8)} (hV : U <+: V) {p : Int} {b : List UInt8} {x : Sec} (h : decU U p b = (0, x)) : decU V p b = (0, x) := by
  obtain ⟨h1, h2, h3, h4, h5, h6⟩ := decU_ok h
  have hof : ofS p (b.take 504) = some x := by
    unfold decU at h
    rw [if_neg (by omega), if_neg h2] at h
    split at h
    · simp at h
    · rename_i y hy
      split at h
      · rw [hy]; simpa using h
      · simp at h
  unfold decU
  rw [if_neg (by omega), if_neg h2, hof]
  have : checkU V (b.take 504) (b.drop 504) = true := by
    unfold checkU
    rw [h4, h6, idxOf_pre hV h5]
    simp [hV.subset h5]
  simp only [this, if_true]

/-- A suite in plain words: none: the real one; else what was summed. -/
abbrev SU := Option (List (List UInt8))
def sumK : SU → List UInt8 → List UInt8 × SU
  | none, t => (crcB t, none)
  | some U, t => (markB (sumU U t).1, some (sumU U t).2)
def checkK : SU → List UInt8 → List UInt8 → Bool
  | none, t, s => decide (crcB t = s)
  | some U, t, s => checkU U t s
def encK (K : SU) (p : Int) (x : Sec) : List UInt8 × SU := (textS p x ++ (sumK K (textS p x)).1, (sumK K (textS p x)).2)
def decK (K : SU) (p : Int) (b : List UInt8) : Int × Sec :=
  if b.length ≠ 512 then (4, secZero) else if b = blankS then (7, secZero) else
    match ofS p (b.take 504) with
    | none => (11, secZero)
    | some x => if checkK K (b.take 504) (b.drop 504) = true then (0, x) else (11, secZero)
def roomK : SU → Nat
  | none => 0
  | some U => U.length
theorem sumK_length (K : SU) (t : List UInt8) : (sumK K t).1.length = 8 := by
  cases K with
  | none => exact crcB_length t
  | some U => exact markB_length _
theorem sumK_room (K : SU) (t : List UInt8) : roomK (sumK K t).2 ≤ roomK K + 1 := by
  cases K with
  | none => simp [sumK, roomK]
  | some U => exact sumU_length U t
theorem encK_some (U : List (List UInt8)) (p : Int) (x : Sec) : encK (some U) p x = ((encU U p x).1, some (encU U p x).2) := rfl
theorem decK_some (U : List (List UInt8)) (p : Int) (b : List UInt8) : decK (some U) p b = decU U p b := rfl
theorem decK_none (p : Int) (b : List UInt8) : decK none p b = decR p b := by
  unfold decK decR
  simp [checkK]
theorem encK_length (K : SU) (p : Int) (x : Sec) : (encK K p x).1.length = 512 := by simp [encK, textS_length, sumK_length]

end Go.Proofs.Ytdjndeleafhglaa
namespace Go.Proofs.Ytdjndeleafhglaa
open Go.RowKit

theorem Mod_any (i n : Int) (w : World) (h1 : 1 ≤ n) (h2 : n ≤ 1000000) :
    Calls Try.prog 52 #[.int .i64 i, .int .i64 n] w fun e w' => e = .returned (.int .i64 (i % n)) ∧ w = w' := by
  have hn0 : ¬ n = 0 := by omega
  have hn1 : ¬ n < 1 := by omega
  have b1 := Int.tmod_lt_of_pos i (show (0 : Int) < n by omega)
  have b2 : -n < i.tmod n := Int.lt_tmod_of_pos i (show (0 : Int) < n by omega)
  have h3 : i.tmod n = if 0 ≤ i ∨ n ∣ i then i % n else i % n - n := by
    rw [Int.tmod_eq_emod]
    split <;> simp <;> omega
  have h4 := Int.emod_nonneg i hn0
  have h5 := Int.emod_lt_of_pos i (show (0 : Int) < n by omega)
  obtain ⟨r, hr⟩ : ∃ r, r = i.tmod n := ⟨_, rfl⟩
  have hr' := hr.symm
  rw [← hr] at b1 b2 h3
  by_cases h0 : r < 0
  · have e1 : IntKind.i64.wrap (r + n) = r + n := IntWalk.i64_in _ (by omega)
    have e2 : r + n = i % n := by split at h3 <;> omega
    clear h3 hr
    go_enter Try.func52, Try.ntmps52
    go_wp2
    go_ret
    exact ⟨by first | rfl | exact ret_int e2, rfl⟩
  · have e2 : r = i % n := by split at h3 <;> omega
    clear h3 hr
    go_enter Try.func52, Try.ntmps52
    go_wp2
    go_ret
    exact ⟨by first | rfl | exact ret_int e2, rfl⟩

theorem BytesAt.of_own {w : World} {base n : Nat} {v : Value} {l : List UInt8} (h : w.ownsRow base 5 1 v n (bytesV l)) : ∃ A cap, v = .slice A n cap ∧ BytesAt w A n l := by
  have hl : l.length = n := by have := h.1; rw [bytesV_length] at this; omega
  rcases h.2 with ⟨rfl, rfl⟩ | ⟨g, cap, cur, rfl, _, hg, hc, _, hs, ht⟩
  · exact ⟨none, 0, rfl, hl, fun h => by omega⟩
  · refine ⟨_, cap, rfl, hl, fun _ => ⟨g, 0, rfl, fun j v hv => ?_⟩⟩
    have hj : j < n := by have := (List.getElem?_eq_some_iff.1 hv).1; rw [bytesV_length] at this; omega
    rw [Nat.zero_add, h.cellAt j (by omega), hv]
theorem BytesAt.of_block {w : World} {g : Nat} {t : TypeId} {l : List UInt8} (n : Nat) (hn : l.length = n) (h : w.heap[g]? = some (.cells (bytesV l).toArray t (0, 0))) : BytesAt w (some ⟨g, 0, none⟩) n l :=
  ⟨hn, fun _ => ⟨g, 0, rfl, fun j v hv => by rw [Nat.zero_add, cell_of_row _ _ _ _ _ _ h]; simpa using hv⟩⟩

set_option maxRecDepth 100000 in
set_option maxHeartbeats 1000000 in
theorem Join_any (ga oa n ca gb ob m cb : Nat) (la lb : List UInt8) (w : World) (ha : BytesAt w (some ⟨ga, oa, none⟩) n la) (hb : BytesAt w (some ⟨gb, ob, none⟩) m lb) (hn : n ≤ 1000000) (hm : m ≤ 1000000) :
    Calls Try.prog 56 #[.slice (some ⟨ga, oa, none⟩) n ca, .slice (some ⟨gb, ob, none⟩) m cb] w fun e w' => ∃ v', e = .returned v' ∧ w'.ownsRow w.heap.size 5 1 v' (n + m) (bytesV (la ++ lb)) ∧ Below w.heap.size w w' := by
  obtain ⟨i0, hi, hz0, hz1, hz2⟩ := info_parts info_byte
  have ra : ∀ j u, (bytesV la)[j]? = some u → w.cell? ((⟨ga, oa, none⟩ : Addr).add j) = some u := fun j u hj => by
    have hjl := (List.getElem?_eq_some_iff.1 hj).1
    rw [bytesV_length, ha.len] at hjl
    obtain ⟨g, o, he, hr⟩ := ha.at_ (by omega)
    cases he
    rw [Addr.add_mid]; exact hr j u hj
  have rb : ∀ j u, (bytesV lb)[j]? = some u → w.cell? ((⟨gb, ob, none⟩ : Addr).add j) = some u := fun j u hj => by
    have hjl := (List.getElem?_eq_some_iff.1 hj).1
    rw [bytesV_length, hb.len] at hjl
    obtain ⟨g, o, he, hr⟩ := hb.at_ (by omega)
    cases he
    rw [Addr.add_mid]; exact hr j u hj
  have hla := ha.len
  have hlb := hb.len
  have Ra := Lib.hid ra; clear ra
  have Rb := Lib.hid rb; clear rb
  have Hla := Lib.hid hla; clear hla
  have Hlb := Lib.hid hlb; clear hlb
  clear ha hb
  go_enter Try.func56, Try.ntmps56
  go_wp2_with (at_builtin; refine wpList_append_own _ rfl _ _ 41 rfl w.heap.size 5 i0 (.int .u8 0) 1 1 Try.underlying41 hi hz0 hz1 hz2 rfl (by decide) _ _ _ rfl (World.ownsRow_nil w _ _ _) ⟨ga, oa, none⟩ n ca (bytesV la) rfl ?qc1 ?qc2 ?qc3 ?qc4 ?qc5 ?qc6 ?_)
  case qc1 => rw [bytesV_length, Hla.out]; omega
  case qc2 => exact Ra.out
  case qc3 => exact bytesV_one la
  case qc4 => unfold maxLen; omega
  case qc5 => omega
  case qc6 => exact Nat.le_refl _
  intro v1 w1 hown1 hgrow1 hnil1
  have hown1' : w1.ownsRow w.heap.size 5 1 v1 n (bytesV la) := by simpa using hown1
  have hb1 : Below w.heap.size w w1 := (Bnil w).grown hgrow1 (Nat.le_refl _) (fun k hk => by simp [Value.ownBlock] at hk)
  have hz1' := hb1.size
  have rb1 : ∀ j u, (bytesV lb)[j]? = some u → w1.cell? ((⟨gb, ob, none⟩ : Addr).add j) = some u := fun j u hj => by
    have h0 := Rb.out j u hj
    rw [Addr.add_mid] at h0 ⊢
    exact (hb1.cell (p := ⟨gb, ob + j, none⟩) (World.block_lt_of_cell? w _ h0)).trans h0
  have Rb1 := Lib.hid rb1; clear rb1
  clear hown1 hgrow1 hnil1
  go_wp2_with (at_builtin; refine wpList_append_own _ rfl _ _ 41 rfl w.heap.size 5 i0 (.int .u8 0) 1 1 Try.underlying41 hi hz0 hz1 hz2 rfl (by decide) _ _ _ rfl hown1' ⟨gb, ob, none⟩ m cb (bytesV lb) rfl ?qd1 ?qd2 ?qd3 ?qd4 ?qd5 ?qd6 ?_)
  case qd1 => rw [bytesV_length, Hlb.out]; omega
  case qd2 => exact Rb1.out
  case qd3 => exact bytesV_one lb
  case qd4 => unfold maxLen; omega
  case qd5 => omega
  case qd6 => exact hz1'
  intro v2 w2 hown2 hgrow2 hnil2
  go_wp2
  go_ret
  refine ⟨v2, rfl, by rw [show bytesV (la ++ lb) = bytesV la ++ bytesV lb by simp [bytesV]]; exact hown2, ?_⟩
  exact hb1.grown hgrow2 hz1' (fun k hk => (hown1'.lt k hk).1)

set_option maxRecDepth 100000 in
set_option maxHeartbeats 1000000 in
theorem Same_any (A B : Option Addr) (n m ca cb : Nat) (la lb : List UInt8) (w : World) (ha : BytesAt w A n la) (hb : BytesAt w B m lb) (hn : n ≤ 1000000) :
    Calls Try.prog 54 #[.slice A n ca, .slice B m cb] w fun e w' => e = .returned (.bool (decide (la = lb))) ∧ Below w.heap.size w w' := by
  have hla := ha.len
  have hlb := hb.len
  by_cases hnm : n = m
  · subst hnm
    have Ha := Lib.hid ha; clear ha
    have Hb := Lib.hid hb; clear hb
    have Hla := Lib.hid hla; clear hla
    have Hlb := Lib.hid hlb; clear hlb
    go_enter Try.func54, Try.ntmps54
    go_wp2_with fail
    go_loopw [5] (fun i wr => ∃ k : Nat, k ≤ n ∧ i = .int .i64 k ∧ (∀ j, j < k → la[j]? = lb[j]?) ∧ Below w.heap.size w wr) (fun i _ => n - (intOf i).toNat)
    case atStart => exact ⟨0, by omega, rfl, (fun j hj => by omega), by ((repeat (first | (with_reducible exact Bnil _) | (with_reducible assumption) | (with_reducible refine Bset ?_ ?_ _) | (with_reducible refine Bnew ?_ _) | (with_reducible refine Bdrew ?_) | (with_reducible refine Bthen ?_ (by assumption)))); all_goals (simp; try omega))⟩
    case round =>
      obtain ⟨k, hk, rfl, hsame, hbel⟩ := hrel
      have Hsame := Lib.hid hsame; clear hsame
      by_cases hlt : k < n
      · obtain ⟨ga, oa, rfl, hra⟩ := Ha.out.at_ (by omega)
        obtain ⟨gb, ob, rfl, hrb⟩ := Hb.out.at_ (by omega)
        obtain ⟨x, hx⟩ : ∃ x, la[k]? = some x := ⟨_, List.getElem?_eq_getElem (by rw [Hla.out]; exact hlt)⟩
        obtain ⟨y, hy⟩ : ∃ y, lb[k]? = some y := ⟨_, List.getElem?_eq_getElem (by rw [Hlb.out]; exact hlt)⟩
        have hxa := hra k (.int .u8 (x.toNat : Int)) (by simp [bytesV, hx])
        have hyb := hrb k (.int .u8 (y.toNat : Int)) (by simp [bytesV, hy])
        have hgal := World.block_lt_of_cell? w _ hxa
        have hgbl := World.block_lt_of_cell? w _ hyb
        have ra := (hbel.cell (p := ⟨ga, oa + k, none⟩) hgal).trans hxa
        have rb := (hbel.cell (p := ⟨gb, ob + k, none⟩) hgbl).trans hyb
        have hzr := hbel.size
        have hgal2 : ga < wr.heap.size := Nat.lt_of_lt_of_le hgal hzr
        have hgbl2 : gb < wr.heap.size := Nat.lt_of_lt_of_le hgbl hzr
        have hkn : (k : Int) < (n : Int) := by omega
        have hcw := @BW.cell
        have Hx := Lib.hid hx; clear hx
        have Hy := Lib.hid hy; clear hy
        clear hra hrb hxa hyb
        by_cases hxy : x = y
        · subst hxy
          go_wp2_with fail
          refine wp_region_below (by kernel_rfl) (by kernel_rfl) ?_
          iterate 9 (quiet_step (fail))
          refine wpQuiet_nil ?_
          rintro _ ⟨z, rfl⟩
          go_wp2_with fail
          have hrel6 : (∀ j, j < k + 1 → la[j]? = lb[j]?) ∧ Below w.heap.size w z.w := ⟨fun j hj => by
            by_cases h : j < k
            · exact Hsame.out j h
            · obtain rfl : j = k := by omega
              exact Hx.out.trans Hy.out.symm, z.then hbel⟩
          go_roundw
          case rel => exact ⟨k + 1, by omega, by go_num, hrel6⟩
          case measure => simp [intOf]; omega
        · have hne : ¬ (x.toNat = y.toNat) := fun h => hxy (UInt8.toNat_inj.1 h)
          have hne2 : ¬ ((x.toNat : Int) = (y.toNat : Int)) := by omega
          go_wp2_with fail
          refine wp_region_below (by kernel_rfl) (by kernel_rfl) ?_
          iterate 9 (quiet_step (fail))
          refine wpQuiet_nil ?_
          rintro _ ⟨z, rfl⟩
          go_wp2_with fail
          have he2 : decide (la = lb) = false := by
            simp only [decide_eq_false_iff_not]
            intro e
            apply hxy
            have h1 := Hx.out
            rw [e, Hy.out] at h1
            exact (Option.some.inj h1).symm
          go_ret
          exact ⟨ret_bool he2.symm, z.then hbel⟩
      · have hkn : ¬ (k : Int) < (n : Int) := by omega
        have he : la = lb := List.ext_getElem? fun j => by
          by_cases hj : j < k
          · exact Hsame.out j hj
          · rw [List.getElem?_eq_none (by rw [Hla.out]; omega), List.getElem?_eq_none (by rw [Hlb.out]; omega)]
        have he2 : decide (la = lb) = true := by simpa using he
        have He2 := Lib.hid he2; clear he2 he
        go_wp2_with fail
        go_ret
        exact ⟨ret_bool He2.out.symm, hbel⟩
  · have he : decide (la = lb) = false := by
      simp only [decide_eq_false_iff_not]
      intro e
      rw [e] at hla
      omega
    have He := Lib.hid he; clear he
    have hne : ¬ (n : Int) = (m : Int) := by omega
    clear ha hb hla hlb
    go_enter Try.func54, Try.ntmps54
    go_wp2_with fail
    go_ret
    exact ⟨ret_bool He.out.symm, by ((repeat (first | (with_reducible exact Bnil _) | (with_reducible assumption) | (with_reducible refine Bset ?_ ?_ _) | (with_reducible refine Bnew ?_ _) | (with_reducible refine Bdrew ?_) | (with_reducible refine Bthen ?_ (by assumption)))); all_goals (simp; try omega))⟩

end Go.Proofs.Ytdjndeleafhglaa
namespace Go.Proofs.Ytdjndeleafhglaa
open Go.RowKit

theorem own_of_block {w : World} {g base : Nat} {l : List UInt8} (n : Nat) (hn : l.length = n) (h : w.heap[g]? = some (.cells (bytesV l).toArray 5 (0, 0))) (hg : base ≤ g) (hm : n ≤ 1000000000) :
    w.ownsRow base 5 1 (.slice (some ⟨g, 0, none⟩) n n) n (bytesV l) := by
  refine ⟨by rw [bytesV_length]; omega, .inr ⟨g, n, (bytesV l).toArray, rfl, hg, h, Nat.le_refl _, by unfold maxLen; omega, by simp [bytesV_length, hn], ?_⟩⟩
  rw [List.take_of_length_le]
  simp [bytesV_length, hn]
theorem BytesAt.own {w : World} {base n : Nat} {A : Option Addr} {c : Nat} {l : List UInt8} (h : w.ownsRow base 5 1 (.slice A n c) n (bytesV l)) : BytesAt w A n l := by
  obtain ⟨A', c', he, hb⟩ := BytesAt.of_own h
  cases he
  exact hb
theorem own_form {w : World} {base n : Nat} {v : Value} {e : TypeId} {size : Nat} {xs : List Value} (h : w.ownsRow base e size v n xs) : ∃ A c, v = .slice A n c := by
  rcases h.2 with ⟨rfl, rfl⟩ | ⟨g, cap, _, rfl, _⟩
  · exact ⟨_, _, rfl⟩
  · exact ⟨_, _, rfl⟩
theorem own_cap {w : World} {base n : Nat} {A : Option Addr} {c : Nat} {e : TypeId} {size : Nat} {xs : List Value} (h : w.ownsRow base e size (.slice A n c) n xs) : n ≤ c := by
  rcases h.2 with ⟨he, rfl⟩ | ⟨g, cap, _, he, _, _, hc, _⟩
  · omega
  · cases he; exact hc

theorem run_appB {w : World} (ty : TypeId) (base n : Nat) (v : Value) (l : List UInt8) (hown : w.ownsRow base 5 1 v n (bytesV l)) (A : Option Addr) (m c : Nat) (l2 : List UInt8) (hb : BytesAt w A m l2)
    (hsm : n + m ≤ 1000000000) (hbase : base ≤ w.heap.size) :
    ∃ A' c' w', (Builtin.append_ #[41, 41] ty #[v, .slice A m c]).run Try.prog w = .ok (.slice A' (n + m) c') w' ∧ w'.ownsRow base 5 1 (.slice A' (n + m) c') (n + m) (bytesV (l ++ l2)) ∧ w.grownBy w' v.ownBlock ∧
      ((Value.slice A' (n + m) c').ownBlock = v.ownBlock ∨ (Value.slice A' (n + m) c').ownBlock = some w.heap.size) := by
  obtain ⟨i0, hi, hz0, hz1, hz2⟩ := info_parts info_byte
  have hbl := hb.len
  have hno : A = none → m = 0 := fun e => by
    rcases Nat.eq_zero_or_pos m with h0 | h0
    · exact h0
    · obtain ⟨g, o, h, _⟩ := hb.at_ h0
      rw [e] at h; cases h
  rcases A with _ | ad
  · obtain rfl := hno rfl
    obtain rfl : l2 = [] := List.eq_nil_of_length_eq_zero hbl
    obtain ⟨A0, c0, rfl⟩ := own_form hown
    refine ⟨A0, c0, w, ?_, by simpa using hown, World.grownBy.refl w _, .inl rfl⟩
    rcases hown.2 with ⟨he, h0⟩ | ⟨g, cap, cur, he, _, _, hnc, _⟩
    · cases he
      simp [Builtin.append_, run_underlying Try.underlying41, sizeOf, typeInfo, hi, Builtin.lenOf, Builtin.firstCells]
    · cases he
      simp [Builtin.append_, run_underlying Try.underlying41, sizeOf, typeInfo, hi, Builtin.lenOf, Builtin.firstCells, hnc, storeCells]
  · have hcells : ∀ j u, (bytesV l2)[j]? = some u → w.cell? (ad.add j) = some u := by
      intro j u hu
      have hj : j < m := by have := (List.getElem?_eq_some_iff.1 hu).1; rw [bytesV_length] at this; omega
      obtain ⟨g, o, h, hr⟩ := hb.at_ (by omega)
      cases h
      rw [Addr.add_mid]
      exact hr j u hu
    obtain ⟨v', w', hrun, h2, h3, _, h5⟩ := run_append_own_at (P := Try.prog) w base 41 ty 5 i0 (.int .u8 0) 1 1 Try.underlying41 hi hz0 hz1 hz2 rfl (by decide) v n (bytesV l) hown ad m c (bytesV l2)
      (by rw [bytesV_length]; omega) hcells (bytesV_one l2) (by unfold maxLen; omega) (by omega) hbase
    obtain ⟨A', c', rfl⟩ := own_form h2
    refine ⟨A', c', w', hrun, by rw [show bytesV (l ++ l2) = bytesV l ++ bytesV l2 by simp [bytesV]]; exact h2, h3, h5⟩

/-- append of bytes onto a row of the call's own. -/
theorem wp_appB {w : World} {o : Oper} {a : Act} {K : Act → World → Prop} {Q : Exit → Act → World → Prop} (s x : Operand)
    (ho : o.op = .call { callee := .builtin .append, args := #[s, x], argTypes := #[41, 41] }) (base n : Nat) (v : Value) (hs : a.eval s = v) (l : List UInt8) (hown : w.ownsRow base 5 1 v n (bytesV l))
    (A : Option Addr) (m c : Nat) (hx : a.eval x = .slice A m c) (l2 : List UInt8) (hb : BytesAt w A m l2) (hsm : n + m ≤ 1000000000) (hbase : base ≤ w.heap.size)
    (h : ∀ A' c' w', w'.ownsRow base 5 1 (.slice A' (n + m) c') (n + m) (bytesV (l ++ l2)) → w.grownBy w' v.ownBlock →
      ((Value.slice A' (n + m) c').ownBlock = v.ownBlock ∨ (Value.slice A' (n + m) c').ownBlock = some w.heap.size) → K (a.put o.dst (.slice A' (n + m) c')) w') : o.wp Try.prog a w K Q := by
  obtain ⟨A', c', w', hrun, h2, h3, h4⟩ := run_appB o.type base n v l hown A m c l2 hb hsm hbase
  unfold Oper.wp execOp
  simp only [ho, resolve, invoke, builtin, Sem.run_bind, Sem.run_pure, Result.andThen_ok, List.map_toArray, List.map_cons, List.map_nil, hs, hx, hrun]
  exact h A' c' w' h2 h3 h4
theorem wpList_appB {w : World} {ops : Array Oper} {rest : List Oper} {o : Oper} {a : Act} {Q : Exit → Act → World → Prop} (hgd : o.guard = none) (s x : Operand)
    (ho : o.op = .call { callee := .builtin .append, args := #[s, x], argTypes := #[41, 41] }) (base n : Nat) (v : Value) (hs : a.eval s = v) (l : List UInt8) (hown : w.ownsRow base 5 1 v n (bytesV l))
    (A : Option Addr) (m c : Nat) (hx : a.eval x = .slice A m c) (l2 : List UInt8) (hb : BytesAt w A m l2) (hsm : n + m ≤ 1000000000) (hbase : base ≤ w.heap.size)
    (h : ∀ A' c' w', w'.ownsRow base 5 1 (.slice A' (n + m) c') (n + m) (bytesV (l ++ l2)) → w.grownBy w' v.ownBlock →
      ((Value.slice A' (n + m) c').ownBlock = v.ownBlock ∨ (Value.slice A' (n + m) c').ownBlock = some w.heap.size) → wpList Try.prog ops Q rest (a.put o.dst (.slice A' (n + m) c')) w') : wpList Try.prog ops Q (o :: rest) a w :=
  wpList_plain hgd fun _ hK => wp_appB s x ho base n v hs l hown A m c hx l2 hb hsm hbase fun A' c' w' h2 h3 h4 => hK _ _ (h A' c' w' h2 h3 h4)

theorem Below.app {w0 w w' : World} {base n : Nat} {v : Value} {e : TypeId} {size : Nat} {xs : List Value} (hb : Below base w0 w) (hown : w.ownsRow base e size v n xs) (hg : w.grownBy w' v.ownBlock) (hs : base ≤ w.heap.size) : Below base w0 w' :=
  hb.grown hg hs (fun k hk => (hown.lt k hk).1)
/-- The row was made since: what lay in w is as it was. -/
theorem Below.app2 {w0 w w' : World} {B base n : Nat} {v : Value} {e : TypeId} {size : Nat} {xs : List Value} (hb : Below B w0 w) (hown : w.ownsRow base e size v n xs) (hg : w.grownBy w' v.ownBlock) (hs : base ≤ w.heap.size) (hB : B ≤ base) : Below B w0 w' :=
  hb.grown hg (Nat.le_trans hB hs) (fun k hk => Nat.le_trans hB (hown.lt k hk).1)

/-- append onto bytes that fill their row (marked or not): they move to a new row. -/
theorem run_growB {w : World} (ty : TypeId) (g n : Nat) (l : List UInt8) (hl : l.length = n) (hcells : ∀ j u, (bytesV l)[j]? = some u → w.cell? ⟨g, j, none⟩ = some u) (A : Option Addr) (m c : Nat) (l2 : List UInt8) (hb : BytesAt w A m l2)
    (hm : 0 < m) (hsm : n + m ≤ 1000000000) :
    ∃ A' c' w', (Builtin.append_ #[41, 41] ty #[.slice (some ⟨g, 0, none⟩) n n, .slice A m c]).run Try.prog w = .ok (.slice A' (n + m) c') w' ∧ w'.ownsRow w.heap.size 5 1 (.slice A' (n + m) c') (n + m) (bytesV (l ++ l2)) ∧ Below w.heap.size w w' := by
  obtain ⟨i0, hi, hz0, hz1, hz2⟩ := info_parts info_byte
  have hbl := hb.len
  obtain ⟨g2, o2, rfl, hr2⟩ := hb.at_ hm
  have hnews : ∀ j u, (bytesV l2)[j]? = some u → w.cell? ((⟨g2, o2, none⟩ : Addr).add j) = some u := fun j u hu => by
    rw [Addr.add_mid]; exact hr2 j u hu
  have hbase : ∀ j u, (bytesV l)[j]? = some u → w.cell? ((⟨g, 0, none⟩ : Addr).add j) = some u := fun j u hu => by
    rw [Addr.add_mid, Nat.zero_add]; exact hcells j u hu
  have hr := run_append_grow (P := Try.prog) w 41 ty 5 i0 (.int .u8 0) Try.underlying41 hi hz0 ⟨g, 0, none⟩ n n (bytesV l) (by rw [bytesV_length, hz1]; omega) hbase ⟨g2, o2, none⟩ m c (bytesV l2) (by rw [bytesV_length, hz1]; omega) hnews
    (by omega) (by omega) (growslice_fits (by omega) (by rw [hz2]; omega))
  have hge := grownCap_ge w (n + m) n 5
  have hcm := grownCap_le_maxLen w (n + m) n 5 (by unfold maxLen; omega)
  refine ⟨_, _, _, hr, ⟨?_, .inr ⟨w.heap.size, _, _, rfl, Nat.le_refl _, heap_alloc_new w.drew _, hge, hcm, ?_, ?_⟩⟩, (Bdrew (Bnil w)).alloc (Nat.le_refl _) _⟩
  · simp [bytesV_length, hl, hbl]
  · simp only [Array.size_append, List.size_toArray, size_zeroCells, bytesV_length, hl, hbl, Value.cells, List.size_toArray, List.length_cons, List.length_nil]
    omega
  · simp only [Array.toList_append]
    rw [List.take_left' (by simp [bytesV_length, hl, hbl])]
    simp [bytesV]
theorem wpList_growB {w : World} {ops : Array Oper} {rest : List Oper} {o : Oper} {a : Act} {Q : Exit → Act → World → Prop} (hgd : o.guard = none) (s x : Operand)
    (ho : o.op = .call { callee := .builtin .append, args := #[s, x], argTypes := #[41, 41] }) (g n : Nat) (hs : a.eval s = .slice (some ⟨g, 0, none⟩) n n) (l : List UInt8) (hl : l.length = n)
    (hcells : ∀ j u, (bytesV l)[j]? = some u → w.cell? ⟨g, j, none⟩ = some u) (A : Option Addr) (m c : Nat) (hx : a.eval x = .slice A m c) (l2 : List UInt8) (hb : BytesAt w A m l2) (hm : 0 < m) (hsm : n + m ≤ 1000000000)
    (h : ∀ A' c' w', w'.ownsRow w.heap.size 5 1 (.slice A' (n + m) c') (n + m) (bytesV (l ++ l2)) → Below w.heap.size w w' → wpList Try.prog ops Q rest (a.put o.dst (.slice A' (n + m) c')) w') : wpList Try.prog ops Q (o :: rest) a w :=
  wpList_plain hgd fun K hK => by
    obtain ⟨A', c', w', hrun, h2, h3⟩ := run_growB o.type g n l hl hcells A m c l2 hb hm hsm
    unfold Oper.wp execOp
    simp only [ho, resolve, invoke, builtin, Sem.run_bind, Sem.run_pure, Result.andThen_ok, List.map_toArray, List.map_cons, List.map_nil, hs, hx, hrun]
    exact hK _ _ (h A' c' w' h2 h3)

end Go.Proofs.Ytdjndeleafhglaa
namespace Go.Proofs.Ytdjndeleafhglaa
open Go.RowKit

theorem xor_u32 (a b : Nat) (ha : a < 4294967296) (hb : b < 4294967296) : bits .xor .u32 (a : Int) (b : Int) = ((a ^^^ b : Nat) : Int) := by
  have h := xor_lt32 ha hb
  change IntKind.u32.wrap ((BitVec.ofInt 32 (a : Int) ^^^ BitVec.ofInt 32 (b : Int)).toNat : Int) = _
  rw [BitVec.toNat_xor, BitVec.ofInt_natCast, BitVec.ofInt_natCast, BitVec.toNat_ofNat, BitVec.toNat_ofNat, Nat.mod_eq_of_lt (show a < 2 ^ 32 by omega), Nat.mod_eq_of_lt (show b < 2 ^ 32 by omega), IntKind.wrap_u32]
  omega
theorem and_u32 (a b : Nat) (ha : a < 4294967296) (hb : b < 4294967296) : bits .and .u32 (a : Int) (b : Int) = ((a &&& b : Nat) : Int) :=
  (bits_nat .u32 32 (by decide) (fun n h0 h1 => by rw [IntKind.wrap_u32]; omega) a b (by omega) (by omega)).1

theorem step_bits (c : Nat) :
    (c / 2) ^^^ (3988292384 &&& ((4294967296 - (c &&& 1)) % 4294967296)) = stepC c := by
  unfold stepC
  rw [Nat.and_one_is_mod]
  by_cases h1 : c % 2 = 1
  · rw [if_pos h1, h1]
    rfl
  · rw [if_neg h1, show c % 2 = 0 by omega]
    simp

set_option maxRecDepth 100000 in
set_option maxHeartbeats 1000000 in
theorem CStep_any (c : Nat) (w : World) (h : c < 4294967296) :
    Calls Try.prog 202 #[.int .u32 (c : Int)] w fun e w' => e = .returned (.int .u32 (stepC c : Int)) ∧ w = w' := by
  have e1 : bits .and .u32 (c : Int) 1 = ((c &&& 1 : Nat) : Int) := and_u32 c 1 h (by decide)
  have e2 : (-((c &&& 1 : Nat) : Int)) % 4294967296 = (((4294967296 - (c &&& 1)) % 4294967296 : Nat) : Int) := by
    have := Nat.and_one_is_mod c
    omega
  have e3 : bits .and .u32 3988292384 (((4294967296 - (c &&& 1)) % 4294967296 : Nat) : Int) = ((3988292384 &&& ((4294967296 - (c &&& 1)) % 4294967296) : Nat) : Int) := and_u32 3988292384 _ (by decide) (Nat.mod_lt _ (by decide))
  have e4 : bits .xor .u32 ((c : Int) / 2) ((3988292384 &&& ((4294967296 - (c &&& 1)) % 4294967296) : Nat) : Int) = ((stepC c : Nat) : Int) := by
    have := xor_u32 (c / 2) (3988292384 &&& ((4294967296 - (c &&& 1)) % 4294967296)) (by omega) (Nat.lt_of_le_of_lt Nat.and_le_left (by decide))
    rw [step_bits] at this
    rw [← this]
    simp
  have e5 : bits .xor .u32 ((c : Int) / 2) (bits .and .u32 3988292384 (-bits .and .u32 (c : Int) 1 % 4294967296)) = ((stepC c : Nat) : Int) := by rw [e1, e2, e3, e4]
  have E5 := Lib.hid e5
  clear e1 e2 e3 e4 e5
  go_enter Try.func202, Try.ntmps202
  go_wp2_with fail
  go_ret
  exact ⟨ret_int E5.out, rfl⟩

theorem cell_of_one {w : World} {x : Nat} {v : Value} {t : TypeId} (h : w.heap[x]? = some (.cells #[v] t (0, 0))) : w.cell? ⟨x, 0, none⟩ = some v ∧ w.frozen? ⟨x, 0, none⟩ = false :=
  ⟨by rw [cell_of_row w x _ _ _ _ h]; rfl, by simp [World.frozen?, h]⟩
theorem one_set {w : World} {x : Nat} {v : Value} {t : TypeId} (h : w.heap[x]? = some (.cells #[v] t (0, 0))) (u : Value) : (w.setCell ⟨x, 0, none⟩ u).heap[x]? = some (.cells #[u] t (0, 0)) := blk_set h 0 u

set_option maxRecDepth 100000 in
set_option maxHeartbeats 1000000 in
theorem byByte_any (b : UInt8) (x c : Nat) (w : World) (hx : w.heap[x]? = some (.cells #[.int .u32 (c : Int)] 197 (0, 0))) (hc : c < 4294967296) :
    Calls Try.prog 201 #[.int .u8 (b.toNat : Int), .pointer (some ⟨x, 0, none⟩)] w fun e w' =>
      e = .returned (.tuple #[]) ∧ w'.heap[x]? = some (.cells #[.int .u32 (stepsC 8 (c ^^^ b.toNat) : Int)] 197 (0, 0)) ∧ Frame (fun k => k = x) w w' := by
  have hb := b.toNat_lt
  obtain ⟨hx0, hf0⟩ := cell_of_one hx
  have hxor : bits .xor .u32 (c : Int) (b.toNat : Int) = ((c ^^^ b.toNat : Nat) : Int) := xor_u32 c b.toNat hc (by omega)
  have hlt := xor_lt32 hc (show b.toNat < 4294967296 by omega)
  have h1 := one_set hx (.int .u32 ((c ^^^ b.toNat : Nat) : Int))
  generalize c ^^^ b.toNat = d at hxor hlt h1
  have Hxor := Lib.hid hxor; clear hxor
  have H1 := Lib.hid h1; clear h1
  have Hx := Lib.hid hx; clear hx
  go_enter Try.func201, Try.ntmps201
  go_wp2_with fail
  rw [Hxor.out]
  go_loopw [7] (fun i wr => ∃ j : Nat, j ≤ 8 ∧ i = .int .i64 (j : Int) ∧ wr.heap[x]? = some (.cells #[.int .u32 (stepsC j d : Int)] 197 (0, 0)) ∧ Frame (fun k => k = x) w wr) (fun i _ => 8 - (intOf i).toNat)
  case atStart => exact ⟨0, by omega, rfl, H1.out, Frame.setCell (S := fun k => k = x) (Frame.refl _ w) (.inl rfl) _⟩
  case round =>
    obtain ⟨j, hj, rfl, hr, hfr⟩ := hrel
    obtain ⟨hr0, hg0⟩ := cell_of_one hr
    have hsl := stepsC_lt hlt j
    by_cases hj8 : j < 8
    · have hj8' : (j : Int) < 8 := by omega
      have h2 := one_set hr (.int .u32 (stepsC (j + 1) d : Int))
      have H2 := Lib.hid h2; clear h2
      go_wp2_with (go_at_call 202; refine (CStep_any _ _ hsl).mono ?_; rintro e w1 ⟨rfl, rfl⟩)
      go_roundw
      case rel => exact ⟨j + 1, by omega, by go_num, H2.out, hfr.setCell (.inl rfl) _⟩
      case measure => simp [intOf]; omega
    · obtain rfl : j = 8 := by omega
      go_wp2_with fail
      go_end0
      exact ⟨rfl, hr, hfr⟩

theorem Frame.own {w w' : World} {x B : Nat} (h : Frame (fun k => k = x) w w') (hB : B ≤ x) (hB2 : B ≤ w.heap.size) : Below B w w' := h.below (fun k hk => by omega) hB2

set_option maxRecDepth 100000 in
set_option maxHeartbeats 1000000 in
theorem More_any (A : Option Addr) (n c : Nat) (l : List UInt8) (w : World) (hb : BytesAt w A n l) (hn : n ≤ 140737488351232) :
    Calls Try.prog 200 #[.int .u32 0, .slice A n c] w fun e w' => e = .returned (.int .u32 (sumC l : Int)) ∧ Below w.heap.size w w' := by
  have hlen := hb.len
  have hx0 : bits .xor .u32 0 4294967295 = ((4294967295 : Nat) : Int) := xor_u32 0 4294967295 (by decide) (by decide)
  have hxe : bits .xor .u32 (runC 4294967295 l : Int) 4294967295 = ((sumC l : Nat) : Int) := xor_u32 _ 4294967295 (runC_lt l (by decide)) (by decide)
  have hnew := heap_alloc_new w (.cells #[.int .u32 4294967295] 197)
  have Hxe := Lib.hid hxe; clear hxe
  have Hlen := Lib.hid hlen; clear hlen
  have Hb := Lib.hid hb; clear hb
  have Hnew := Lib.hid hnew; clear hnew
  go_enter Try.func200, Try.ntmps200
  go_wp2_with fail
  go_loopw [8, 14] (fun _ i wr => ∃ j : Nat, j ≤ n ∧ i = .int .i64 (j : Int) ∧ wr.heap[w.heap.size]? = some (.cells #[.int .u32 (runC 4294967295 (l.take j) : Int)] 197 (0, 0)) ∧ Below w.heap.size w wr) (fun _ i _ => n - (intOf i).toNat)
  case atStart => exact ⟨0, by omega, rfl, Hnew.out, by ((repeat (first | (with_reducible exact Bnil _) | (with_reducible assumption) | (with_reducible refine Bset ?_ ?_ _) | (with_reducible refine Bnew ?_ _) | (with_reducible refine Bdrew ?_) | (with_reducible refine Bthen ?_ (by assumption)))); all_goals (simp; try omega))⟩
  case round =>
    obtain ⟨j, hj, rfl, hr, hbel⟩ := hrel
    have hrl := runC_lt (l.take j) (c := 4294967295) (by decide)
    by_cases hlt : j < n
    · obtain ⟨g, o, rfl, hra⟩ := Hb.out.at_ (by omega)
      obtain ⟨y, hy⟩ : ∃ y, l[j]? = some y := ⟨_, List.getElem?_eq_getElem (by rw [Hlen.out]; exact hlt)⟩
      have hya := hra j (.int .u8 (y.toNat : Int)) (by simp [bytesV, hy])
      have hya2 := (hbel.cell (p := ⟨g, o + j, none⟩) (World.block_lt_of_cell? w _ hya)).trans hya
      have hsn : runC 4294967295 (l.take (j + 1)) = stepsC 8 (runC 4294967295 (l.take j) ^^^ y.toNat) := by rw [List.take_add_one, hy]; exact runC_snoc _ _ _
      have hkn : (j : Int) < (n : Int) := by omega
      have hz := hbel.size
      have Hsn := Lib.hid hsn; clear hsn
      have Hy := Lib.hid hy; clear hy hra hya
      go_wp2_with (go_at_call 201; refine (byByte_any _ _ _ _ hr hrl).mono ?_; rintro e w1 ⟨rfl, hr1, hf1⟩)
      go_roundw
      case rel => exact ⟨j + 1, by omega, by go_num, by rw [Hsn.out]; exact hr1, hbel.trans (hf1.own (Nat.le_refl _) hz)⟩
      case measure => simp [intOf]; omega
    · obtain rfl : j = n := by omega
      have hkn : ¬ (j : Int) < (j : Int) := by omega
      have hl : l.take j = l := List.take_of_length_le (by rw [Hlen.out]; omega)
      rw [hl] at hr
      obtain ⟨hr0, hg0⟩ := cell_of_one hr
      clear hl
      go_wp2_with fail
      go_ret
      exact ⟨ret_int Hxe.out, hbel⟩

set_option maxHeartbeats 1000000 in
theorem COf_any (A : Option Addr) (n c : Nat) (l : List UInt8) (w : World) (hb : BytesAt w A n l) (hn : n ≤ 140737488351232) :
    Calls Try.prog 198 #[.slice A n c] w fun e w' => e = .returned (.int .u32 (sumC l : Int)) ∧ Below w.heap.size w w' := by
  go_enter Try.func198, Try.ntmps198
  go_wp2_with (go_at_call 200; refine (More_any _ _ _ _ _ hb hn).mono ?_; rintro e w1 ⟨rfl, hb1⟩)
  go_ret
  exact ⟨rfl, hb1⟩

theorem wrap_u64_of (n : Nat) (h : n < 18446744073709551616) : IntKind.u64.wrap (n : Int) = (n : Int) := by
  simp [IntKind.wrap, IntKind.bits, IntKind.signed]; omega

set_option maxHeartbeats 1000000 in
theorem CBytes_any (A : Option Addr) (n c : Nat) (l : List UInt8) (w : World) (hb : BytesAt w A n l) (hn : n ≤ 140737488351232) :
    Calls Try.prog 185 #[.slice A n c] w fun e w' => ∃ A c, e = .returned (.slice A 8 c) ∧ w'.ownsRow w.heap.size 5 1 (.slice A 8 c) 8 (bytesV (crcB l)) ∧ Below w.heap.size w w' := by
  have hs := sumC_lt l
  go_enter Try.func185, Try.ntmps185
  go_wp2_with fail
  refine (COf_any _ _ _ _ _ hb hn).mono ?_; rintro e w1 ⟨rfl, hb1⟩
  go_wp2_with fail
  refine (NPut_any (sumC l) 8 _ (by decide) (by decide)).mono ?_; rintro e w2 ⟨A2, c2, rfl, hown, hb2⟩
  go_wp2_with fail
  go_ret
  exact ⟨_, _, rfl, own_mono hown hb1.size, Bthen hb1 hb2⟩

set_option maxRecDepth 100000 in
set_option maxHeartbeats 1000000 in
theorem mark_any (n : Nat) (w : World) (hn : n ≤ 1000000000) :
    Calls Try.prog 186 #[.int .i64 (n : Int)] w fun e w' => ∃ A c, e = .returned (.slice A 8 c) ∧ w'.ownsRow w.heap.size 5 1 (.slice A 8 c) 8 (bytesV (markB n)) ∧ Below w.heap.size w w' := by
  have kc := fun (W : World) (C : Array Value) (n c : Nat) => Lib.run_convert_bytes_const (P := Try.prog) W 41 5 C n c Try.underlying41 Try.underlying5
  go_enter Try.func186, Try.ntmps186
  go_wp2_with fail
  have hb0 : Below w.heap.size w (w.alloc (.cells #[.int .u8 255, .int .u8 253] 5 (2, 3))) := Bbox _ _
  have hz0 : w.heap.size < (w.alloc (.cells #[.int .u8 255, .int .u8 253] 5 (2, 3))).heap.size := by simp
  have hc0 : ∀ j u, (bytesV [255, 253])[j]? = some u → (w.alloc (.cells #[.int .u8 255, .int .u8 253] 5 (2, 3))).cell? ⟨w.heap.size, j, none⟩ = some u := fun j u hj => by
    rw [cell_of_row _ _ _ _ _ _ (heap_alloc_new w _), ← hj]
    simp [bytesV]
  generalize w.alloc (.cells #[.int .u8 255, .int .u8 253] 5 (2, 3)) = W1 at hb0 hz0 hc0 ⊢
  have Hc0 := Lib.hid hc0; clear hc0 kc
  refine (NPut_any n 6 W1 (by decide) (by decide)).mono ?_; rintro e w2 ⟨A2, c2, rfl, hown, hb2⟩
  have hc2 : ∀ j u, (bytesV [255, 253])[j]? = some u → w2.cell? ⟨w.heap.size, j, none⟩ = some u := fun j u hj => (hb2.cell (p := ⟨w.heap.size, j, none⟩) hz0).trans (Hc0.out j u hj)
  have hB2 := BytesAt.own hown
  have Hc2 := Lib.hid hc2; clear hc2
  have HB2 := Lib.hid hB2; clear hB2 hown
  have hz2 := hb2.size
  go_wp2_with (at_builtin; refine wpList_growB rfl _ _ rfl w.heap.size 2 rfl [255, 253] rfl Hc2.out A2 6 c2 rfl _ HB2.out (by decide) (by decide) ?_; intro A3 c3 w3 hown3 hb3)
  go_ret
  exact ⟨A3, c3, rfl, own_mono hown3 (by omega), Bthen (Bthen hb0 hb2) hb3⟩

set_option maxHeartbeats 400000 in
theorem none_any (u : Nat) (w : World) :
    Calls Try.prog 137 #[.pointer (some ⟨u, 0, none⟩)] w fun e w' => e = .returned (.bool false) ∧ w = w' := by
  go_enter Try.func137, Try.ntmps137
  go_wp2_with fail
  go_ret
  exact ⟨by first | rfl | simp, rfl⟩
set_option maxHeartbeats 400000 in
theorem none_nil (w : World) :
    Calls Try.prog 137 #[.pointer none] w fun e w' => e = .returned (.bool true) ∧ w = w' := by
  go_enter Try.func137, Try.ntmps137
  go_wp2_with fail
  go_ret
  exact ⟨by first | rfl | simp, rfl⟩

/-- A sector by value. -/
def secV (x : Sec) (A : Option Addr) (c : Nat) : Value := .agg #[.int .i64 x.kind, .int .u64 (x.life : Int), .int .i64 x.seq, .int .u64 (x.gen : Int), .slice A x.body.length c]

set_option maxHeartbeats 400000 in
theorem within_any (n a b : Int) (w : World) :
    Calls Try.prog 181 #[.int .i64 n, .int .i64 a, .int .i64 b] w fun e w' => e = .returned (.bool (decide (a ≤ n) && decide (n ≤ b))) ∧ w = w' := by
  by_cases h : a ≤ n
  all_goals by_cases h2 : n ≤ b
  all_goals
    go_enter Try.func181, Try.ntmps181
    go_wp2_with fail
    go_ret
    exact ⟨ret_bool (by simp; try omega), rfl⟩

set_option maxRecDepth 100000 in
set_option maxHeartbeats 1000000 in
theorem right_any (p : Int) (x : Sec) (A : Option Addr) (c : Nat) (w : World) :
    Calls Try.prog 139 #[.int .i64 p, secV x A c] w fun e w' => e = .returned (.int .i64 (rightS p x)) ∧ Below w.heap.size w w' := by
  obtain ⟨k, l, q, g, b⟩ := x
  unfold secV rightS
  simp only
  go_enter Try.func139, Try.ntmps139
  go_wp2_with (go_at_call 181; refine (within_any _ _ _ _).mono ?_; rintro e w1 ⟨rfl, rfl⟩)
  all_goals
    go_ret
    refine ⟨?_, by ((repeat (first | (with_reducible exact Bnil _) | (with_reducible assumption) | (with_reducible refine Bset ?_ ?_ _) | (with_reducible refine Bnew ?_ _) | (with_reducible refine Bdrew ?_) | (with_reducible refine Bthen ?_ (by assumption)))); all_goals (simp; try omega))⟩
    first
      | rfl
      | (exfalso; (try simp only [Bool.not_eq_true', Bool.not_eq_false', decide_eq_true_eq, decide_eq_false_iff_not] at *); omega)

end Go.Proofs.Ytdjndeleafhglaa
namespace Go.Proofs.Ytdjndeleafhglaa
open Go.RowKit

theorem conv_str {w : World} {A : Option Addr} {n c : Nat} {l : List UInt8} (h : BytesAt w A n l) (hn : 0 < n) : (convert 41 9 (.slice A n c)).run Try.prog w = .ok (.string ⟨l.toArray⟩) w := by
  obtain ⟨g, o, rfl, hr⟩ := h.at_ hn
  have hs : (⟨l.toArray⟩ : ByteArray).size = n := by simp [ByteArray.size, h.len]
  have hb : Lib.Bytes w g o ⟨l.toArray⟩ := fun i hi => by
    have hl : i < l.length := by simpa [ByteArray.size] using hi
    have := hr i (.int .u8 (l[i].toNat : Int)) (by simp [bytesV, hl])
    rw [this]
    rfl
  have := Lib.run_convert_whole (P := Try.prog) w 41 5 9 Try.underlying41 Try.underlying5 Try.underlying9 g o ⟨l.toArray⟩ hb c
  rw [hs] at this
  exact this
/-- .. also of no byte. -/
theorem conv_any {w : World} {A : Option Addr} {n c : Nat} {l : List UInt8} (h : BytesAt w A n l) : (convert 41 9 (.slice A n c)).run Try.prog w = .ok (.string ⟨l.toArray⟩) w := by
  rcases Nat.eq_zero_or_pos n with rfl | hn
  · obtain rfl : l = [] := List.eq_nil_of_length_eq_zero h.len
    rw [run_convert_bytes_string w 41 9 5 _ 0 c Try.underlying41 Try.underlying5 Try.underlying9]
    cases A <;> simp [Conv.bytesToString, loadCells]
    all_goals rfl
  · exact conv_str h hn
theorem BEqual_any (A B : Option Addr) (n m ca cb : Nat) (la lb : List UInt8) (w : World) (ha : BytesAt w A n la) (hb : BytesAt w B m lb) :
    Calls Try.prog 144 #[.slice A n ca, .slice B m cb] w fun e w' => e = .returned (.bool (decide (la = lb))) ∧ w = w' := by
  have ka := conv_any (c := ca) ha
  have kb := conv_any (c := cb) hb
  go_enter Try.func144, Try.ntmps144
  go_wp2_with fail
  go_ret
  exact ⟨ret_bool (by rw [Bool.eq_iff_iff]; simp), rfl⟩
theorem NSame_any (A B : Option Addr) (n m ca cb : Nat) (la lb : List UInt8) (w : World) (ha : BytesAt w A n la) (_hca : n ≤ ca) (hb : BytesAt w B m lb) (_hcb : m ≤ cb) (_hn : n ≤ 140737488351232) (_hm : m ≤ 140737488351232) :
    Calls Try.prog 140 #[.slice A n ca, .slice B m cb] w fun e w' => e = .returned (.bool (decide (la = lb))) ∧ Below w.heap.size w w' := by
  go_enter Try.func140, Try.ntmps140
  go_wp2_with fail
  refine (BEqual_any A B n m ca cb la lb w ha hb).mono ?_; rintro e w1 ⟨rfl, rfl⟩
  go_wp2_with fail
  go_ret
  exact ⟨rfl, Below.refl _ _⟩

set_option maxRecDepth 100000 in
theorem Blank_at (w : World) : Calls Try.prog 136 #[] w fun e w' => e = .returned (.slice (some ⟨w.heap.size, 0, none⟩) 512 512) ∧ w'.heap[w.heap.size]? = some (.cells (bytesV blankS).toArray 5 (0, 0)) ∧ Below w.heap.size w w' := by
  obtain ⟨i0, hi, hz0, hz1, hz2⟩ := info_parts info_byte
  have hmk := run_make (P := Try.prog) w 41 5 i0 _ Try.underlying41 hi hz0 .i64 .i64 512 512 (by omega) (by omega) (by rw [hz2]; omega) (by omega)
  rw [hz1] at hmk
  have hC : ∀ N : Nat, madeCells (Value.cells (.int .u8 0)) (N * 1) = (List.replicate N (Value.int .u8 0)).toArray := fun N => by
    apply Array.ext_getElem?
    intro j
    by_cases hj : j < N
    · simp [madeCells, Value.cells, hj, Nat.mod_one]
    · rw [Array.getElem?_eq_none (by simp [madeCells]; omega), Array.getElem?_eq_none (by simp; omega)]
  have hB : (List.replicate (Int.toNat 512) (Value.int .u8 0)).toArray = (bytesV blankS).toArray := by
    unfold blankS bytesV
    rw [List.map_replicate]
    rfl
  rw [hC, hB] at hmk
  clear hC hB hi hz0 hz1 hz2
  generalize (bytesV blankS).toArray = Z at hmk ⊢
  go_enter Try.func136, Try.ntmps136
  go_wp2_with fail
  go_ret
  exact ⟨rfl, heap_alloc_new w _, Bbox _ _⟩
theorem blankV_length : blankS.length = 512 := List.length_replicate
set_option maxRecDepth 100000 in
theorem IsBlank_any (A : Option Addr) (n c : Nat) (l : List UInt8) (w : World) (ha : BytesAt w A n l) (_hca : n ≤ c) (_hn : n ≤ 140737488351232) :
    Calls Try.prog 60 #[.slice A n c] w fun e w' => e = .returned (.bool (decide (l = blankS))) ∧ Below w.heap.size w w' := by
  go_enter Try.func60, Try.ntmps60
  go_wp2_with fail
  refine (Blank_at w).mono ?_; rintro e w1 ⟨rfl, hblk, hb1⟩
  have hb := BytesAt.of_block 512 blankV_length hblk
  have ha1 := ha.below hb1
  clear hblk
  go_wp2_with fail
  refine (BEqual_any A _ n 512 c 512 l blankS w1 ha1 hb).mono ?_; rintro e w2 ⟨rfl, rfl⟩
  go_wp2_with fail
  go_ret
  exact ⟨rfl, hb1⟩
theorem Blank_any (w : World) : Calls Try.prog 136 #[] w fun e w' => ∃ A c, e = .returned (.slice A 512 c) ∧ w'.ownsRow w.heap.size 5 1 (.slice A 512 c) 512 (bytesV blankS) ∧ Below w.heap.size w w' :=
  (Blank_at w).mono fun _ _ ⟨he, hb, hbl⟩ => ⟨_, _, he, own_of_block 512 blankV_length hb (Nat.le_refl _) (by decide), hbl⟩

end Go.Proofs.Ytdjndeleafhglaa
