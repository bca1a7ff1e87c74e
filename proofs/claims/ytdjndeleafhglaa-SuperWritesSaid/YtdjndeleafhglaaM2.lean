/-
  slices.Backward over a disk's waits: the contract of its closure.
  slices.Clone of bytes.
  What the nil disk says.
  The walk of disk.Read.
  disk.Restart: what of the pending is kept whole (the closure), and what is torn.
  The walk of disk.Restart.
  A disk's calls, each in one contract for every case; and what the calls leave, in numbers.
-/
import Derived.RangeFuncNested
import Derived.RangeFuncBound
import Derived.RangeFuncCalls
import Derived.RangeFuncLeaves
import Derived.Shelf.Abstract
import Derived.Shelf.RegionOpen
import Derived.WalkKit
import Derived.OwnWalkIn
import Derived.TacticsInMore
import Derived.LoopNIn
import Derived.LoopIn
import Derived.Test.YtdjndeleafhglaaM1
import Derived.WalkMore
namespace Go.Proofs.Ytdjndeleafhglaa
open Go.RowKit Go.Shelf

attribute [local go_sem] Oper.semAt_some

/-- A load of a row, inside a fence. -/
theorem wpIn_load_row {F : Fence} {n : Nat} {P : Program} {op : Oper} {a : Act} {w : World} {K : Act → World → Prop} {Q : Exit → Act → World → Prop} (ty : TypeId) (x : Operand) (ho : op.op = .load ty x)
    (b o : Nat) (hx : a.eval x = .pointer (some ⟨b, o, none⟩)) (cs : List Value) (d : TypeDesc) (hc : w.rangeAt b o cs)
    (hu : P.underlying ty = some d) (hd : d.isRow = true) (hi : (P.info? ty).map (·.size) = some cs.length)
    (h : K (a.put op.dst (.agg cs.toArray)) w) : op.wpIn F n P a w K Q := by
  unfold Oper.wpIn
  refine ⟨?_, ?_⟩
  · simp [Oper.about, ho]
  · rw [Oper.semAt_plain F _ _ (by rw [ho]; intro c hc'; cases hc')]
    unfold execOp
    simp only [ho, hx, Instr.loadAt, Instr.sureAddr, Sem.run_bind, Sem.run_pure, Result.andThen_ok, run_loadVar_mid w b o ty cs d hc hu hd hi]
    exact h

/-- A wait of 512 bytes. -/
abbrev Wt := { x : Nat × List UInt8 // x.2.length = 512 }
def Wt.cells (x : Wt) : List Value := .int .i64 (x.1.1 : Int) :: bytesV x.1.2
theorem Wt.cells_length (x : Wt) : x.cells.length = 513 := by rw [Wt.cells, List.length_cons, bytesV_length, x.2]
theorem Wt.cells_one (x : Wt) : ∀ v ∈ x.cells, v.oneCell' = true := List.forall_mem_cons.2 ⟨rfl, bytesV_one _⟩
theorem Wt.cells_size (x : Wt) : (Try.prog.info? 177).map (·.size) = some x.cells.length := by
  obtain ⟨i1, hi1, _, hi1s, _⟩ := info_wait2
  rw [hi1, x.cells_length]; simp [hi1s]

/-- Two blocks lie as they lay. -/
def KeepTwo (b B : Nat) (W W' : World) : Prop := (∀ o, W.heap[b]? = some o → W'.heap[b]? = some o) ∧ (∀ o, W.heap[B]? = some o → W'.heap[B]? = some o)
theorem KeepTwo.refl (b B : Nat) (W : World) : KeepTwo b B W W := ⟨fun _ h => h, fun _ h => h⟩
theorem KeepTwo.trans {b B : Nat} {W1 W2 W3 : World} (h : KeepTwo b B W1 W2) (k : KeepTwo b B W2 W3) : KeepTwo b B W1 W3 := ⟨fun o x => k.1 o (h.1 o x), fun o x => k.2 o (h.2 o x)⟩
theorem KeepTwo.put {b B : Nat} (W : World) (l : Nat) (o : Obj) (h1 : b < l) (h2 : B < l) : KeepTwo b B W (W.putObj l o) :=
  ⟨fun _ hh => (World.putObj_heap_other (by omega)).trans hh, fun _ hh => (World.putObj_heap_other (by omega)).trans hh⟩
theorem KeepTwo.alloc {b B : Nat} (W : World) (o : Obj) : KeepTwo b B W (W.alloc o) :=
  ⟨fun _ hh => (Below.heap_alloc W _ b (Array.getElem?_eq_some_iff.1 hh).1).trans hh, fun _ hh => (Below.heap_alloc W _ B (Array.getElem?_eq_some_iff.1 hh).1).trans hh⟩
theorem KeepTwo.below {b B n : Nat} {W W' : World} (h : Below n W W') (h1 : b < n) (h2 : B < n) : KeepTwo b B W W' := ⟨fun _ hh => (h.block b h1).trans hh, fun _ hh => (h.block B h2).trans hh⟩

set_option maxRecDepth 100000 in
set_option maxHeartbeats 2000000 in
/-- The closure: the waits from the last to the first. -/
theorem back1_in (F : Fence) (n : Nat) (hf : F.fn 189) (hro : F.round = none) (hn : 1 ≤ n) (l Bs b len cap : Nat) (rs : List (Int × Wt)) (hlen : rs.length = len) (hmax : len ≤ 1000000) (J Jx : List (Int × Wt) → World → Prop)
    (hY : ∀ pre x W, J pre W → pre.length < len → YieldAt F (n - 1) Try.prog l #[.int .i64 x.1, .agg x.2.cells.toArray] W fun e W' =>
      (e = .returned (.bool true) ∧ J (pre ++ [x]) W' ∧ KeepTwo b Bs W W') ∨ (e = .returned (.bool false) ∧ Jx (pre ++ [x]) W'))
    (W : World) (oS ob : Obj) (hS : W.heap[Bs]? = some oS) (hb : W.heap[b]? = some ob)
    (hBs : ∀ W' : World, W'.heap[Bs]? = some oS → W'.cell? ⟨Bs, 0, none⟩ = some (.slice (some ⟨b, 0, none⟩) len cap))
    (hc : ∀ W' : World, W'.heap[b]? = some ob → ∀ (k : Nat) x, rs[k]? = some x → x.1 = (len : Int) - 1 - (k : Int) ∧ W'.rangeAt b ((len - 1 - k) * 513) x.2.cells) (h0 : J [] W) :
    CallsIn F n Try.prog 189 #[.func (.yield l) #[] #[], .pointer (some ⟨Bs, 0, none⟩)] W fun e W' => (∃ v, e = .returned v) ∧
      ((∃ ys, ys = rs ∧ J ys W') ∨ (∃ pre, pre <+: rs ∧ Jx pre W')) := by
  have hB0 := hBs W hS
  have Hc := Lib.hid hc; clear hc
  have HBs := Lib.hid hBs; clear hBs
  have HY := Lib.hid hY; clear hY
  refine callsIn_of_wp Try.func189 rfl hf ?_ hro
  simp only [Try.ntmps189, List.size_toArray, List.length_cons, List.length_nil, Nat.reduceAdd, Nat.reduceSub, Array.replicate_succ, Array.replicate_zero, List.push_toArray, List.append_toArray, List.nil_append, List.cons_append]
  gi_wp2
  gi_loopw [3] (fun i wr => ∃ k : Nat, k ≤ len ∧ i = .int .i64 ((len : Int) - 1 - (k : Int)) ∧ J (rs.take k) wr ∧ KeepTwo b Bs W wr)
    (fun i _ => (intOf i + 1).toNat)
  case atStart => exact ⟨0, Nat.zero_le _, by simp, by simpa using h0, KeepTwo.refl _ _ _⟩
  case round =>
    obtain ⟨k, hk, rfl, hJs, hkp⟩ := hrel
    by_cases hlt : k < len
    · obtain ⟨x, hx⟩ : ∃ x, rs[k]? = some x := ⟨_, List.getElem?_eq_getElem (by omega)⟩
      obtain ⟨fn, tmps, assign, body, hy, hR⟩ := HY.out (rs.take k) x wr hJs (by rw [List.length_take]; omega)
      obtain ⟨hx1, hr⟩ := Hc.out wr (hkp.1 _ hb) k x hx
      have hB := HBs.out wr (hkp.2 _ hS)
      have hge : (0 : Int) ≤ (len : Int) - 1 - (k : Int) := by omega
      have hlt' : (len : Int) - 1 - (k : Int) < (len : Int) := by omega
      have hix : (((len : Int) - 1 - (k : Int)).toNat) = len - 1 - k := by omega
      rw [hx1] at hy
      have hlen1 := x.2.cells_length
      have hsz1 := x.2.cells_size
      obtain ⟨U, hU⟩ : ∃ U : List Value, U = x.2.cells := ⟨_, rfl⟩
      rw [← hU] at hy hr hlen1 hsz1
      have Hr := Lib.hid hr; clear hr
      have Hsz := Lib.hid hsz1; clear hsz1
      have HU := Lib.hid hU; clear hU
      have Hx := Lib.hid hx; clear hx
      clear hx1 hlen1
      gi_wp2_with fail
      refine wpIn_load_row 177 _ rfl b ((len - 1 - k) * 513) (by simp [go_sem]) U _ Hr.out Try.underlying177 rfl Hsz.out ?_
      gi_wp2
      refine hR.mono ?_
      rintro e W3 (⟨rfl, hJ3, hk3⟩ | ⟨rfl, hJx3⟩)
      · gi_wp2
        go_roundw
        have htk : rs.take (k + 1) = rs.take k ++ [x] := by rw [List.take_add_one, Hx.out]; rfl
        case rel => exact ⟨k + 1, by omega, by push_cast; congr 1; omega, by rw [htk]; exact hJ3, hkp.trans hk3⟩
        case measure => simp [intOf]; omega
      · gi_wp2
        refine bodyPost_ret (results_none rfl _ _ _) rfl ?_
        have htk : rs.take (k + 1) = rs.take k ++ [x] := by rw [List.take_add_one, Hx.out]; rfl
        exact ⟨⟨_, rfl⟩, .inr ⟨rs.take (k + 1), List.take_prefix _ _, by rw [htk]; exact hJx3⟩⟩
    · obtain rfl : k = len := by omega
      gi_wp2
      go_end0
      exact ⟨⟨_, rfl⟩, .inl ⟨_, rfl, by rw [List.take_of_length_le (by omega)] at hJs; exact hJs⟩⟩

set_option maxRecDepth 100000 in
set_option maxHeartbeats 1000000 in
/-- .. at no waits: no round. -/
theorem back1_nil_in (F : Fence) (n : Nat) (hf : F.fn 189) (hro : F.round = none) (l Bs : Nat) (J : List (Int × Wt) → World → Prop) (W : World) (hBs : W.cell? ⟨Bs, 0, none⟩ = some (.slice none 0 0)) (h0 : J [] W) :
    CallsIn F n Try.prog 189 #[.func (.yield l) #[] #[], .pointer (some ⟨Bs, 0, none⟩)] W fun e W' => (∃ v, e = .returned v) ∧ J [] W' := by
  refine callsIn_of_wp Try.func189 rfl hf ?_ hro
  simp only [Try.ntmps189, List.size_toArray, List.length_cons, List.length_nil, Nat.reduceAdd, Nat.reduceSub, Array.replicate_succ, Array.replicate_zero, List.push_toArray, List.append_toArray, List.nil_append, List.cons_append]
  gi_wp2
  gi_loopw [3] (fun i wr => i = .int .i64 (-1) ∧ J [] wr) (fun _ _ => 0)
  case atStart => exact ⟨rfl, h0⟩
  case round =>
    obtain ⟨rfl, hJs⟩ := hrel
    gi_wp2
    go_end0
    exact ⟨⟨_, rfl⟩, hJs⟩

/-- slices.Backward: the slice is boxed; the function value captures the box. -/
theorem Backward_any (a : Option Addr) (len cap : Nat) (w : World) :
    Calls Try.prog 158 #[.slice a len cap] w fun e w' => e = .returned (.func (.func 189) #[] #[.pointer (some ⟨w.heap.size, 0, none⟩)]) ∧ w' = w.alloc (.cells #[.slice a len cap] 169) := by
  go_enter Try.func158, Try.ntmps158
  go_wp2
  go_ret
  exact ⟨rfl, rfl⟩

/-- What Backward hands back: the waits from the last to the first. -/
theorem back_stops (F : Fence) (n : Nat) (hf : F.fn 189) (hro : F.round = none) (hn : 1 ≤ n) (Bs b : Nat) (rs : List (Int × Wt)) (hmax : rs.length ≤ 1000000) (sv : Value) (w : World) (hS : w.heap[Bs]? = some (.cells #[sv] 169 (0, 0)))
    (hsv : (sv = .slice none 0 0 ∧ rs = []) ∨ ∃ cap, sv = .slice (some ⟨b, 0, none⟩) rs.length cap ∧ b < w.heap.size ∧ ∀ (k : Nat) x, rs[k]? = some x → x.1 = (rs.length : Int) - 1 - (k : Int) ∧ w.rangeAt b ((rs.length - 1 - k) * 513) x.2.cells) :
    SeqStopsK F n Try.prog 189 #[.pointer (some ⟨Bs, 0, none⟩)] (fun x : Int × Wt => #[Value.int .i64 x.1, .agg x.2.cells.toArray]) (KeepTwo b Bs) (fun ys => ys = rs) (fun pre => pre <+: rs) rs.length w := fun l J Jx W hW _ _ hY h0 => by
  have hSl : Bs < w.heap.size := (Array.getElem?_eq_some_iff.1 hS).1
  have hS' := (hW.block Bs hSl).trans hS
  have hcell : ∀ W' : World, W'.heap[Bs]? = some (.cells #[sv] 169 (0, 0)) → W'.cell? ⟨Bs, 0, none⟩ = some sv := fun W' h => by rw [cell_of_row _ _ _ _ _ _ h]; rfl
  rcases hsv with ⟨rfl, rfl⟩ | ⟨cap, rfl, hb, hc⟩
  · exact (back1_nil_in F n hf hro l Bs J W (hcell W hS') h0).mono fun e W' ⟨he, hj⟩ => ⟨he, .inl ⟨_, rfl, hj⟩⟩
  · obtain ⟨ob, hob⟩ : ∃ ob, w.heap[b]? = some ob := ⟨_, Array.getElem?_eq_getElem hb⟩
    exact back1_in F n hf hro hn l Bs b rs.length cap rs rfl hmax J Jx hY W _ ob hS' ((hW.block b hb).trans hob) hcell
      (fun W' h' k x hx => ⟨(hc k x hx).1, rangeAt_keep (hc k x hx).2 (h'.trans hob.symm)⟩) h0

/-- The waits of a disk, from the last to the first, each with its index. -/
theorem backs_of (l : List (Nat × List UInt8)) (h : ∀ x ∈ l, x.2.length = 512) :
    ∃ rs : List (Int × Wt), rs.length = l.length ∧ rs.map (fun x => x.2.1) = l.reverse ∧ ∀ (k : Nat) x, rs[k]? = some x → x.1 = (l.length : Int) - 1 - (k : Int) ∧ l[l.length - 1 - k]? = some x.2.1 := by
  refine ⟨List.ofFn fun k : Fin l.length => (((l.length : Int) - 1 - (k.1 : Int)), ⟨l[l.length - 1 - k.1]'(by omega), h _ (List.getElem_mem _)⟩), by simp, ?_, ?_⟩
  · apply List.ext_getElem
    · simp
    · intro i h1 h2
      simp
  · intro k x hx
    rw [List.getElem?_ofFn] at hx
    split at hx
    · rename_i hk
      obtain rfl := Option.some.inj hx
      exact ⟨rfl, by simp [List.getElem?_eq_getElem (show l.length - 1 - k < l.length by omega)]⟩
    · cases hx

end Go.Proofs.Ytdjndeleafhglaa
namespace Go.Proofs.Ytdjndeleafhglaa
open Go.RowKit

theorem info_byte : (Try.prog.info? 5).map (fun i => (i.zero, i.size, i.bytes)) = some (some (.int .u8 0), 1, 1) := by kernel_rfl

set_option maxRecDepth 100000 in
set_option maxHeartbeats 1000000 in
theorem Clone_any (g o n c : Nat) (V : List Value) (w : World) (hV : V.length = n) (hn : n ≤ 1000000) (h1 : ∀ v ∈ V, v.oneCell' = true) (hr : w.rangeAt g o V) :
    Calls Try.prog 135 #[.slice (some ⟨g, o, none⟩) n c] w fun e w' => ∃ v', e = .returned v' ∧ w'.ownsRow w.heap.size 5 1 v' n V ∧ Below w.heap.size w w' := by
  obtain ⟨i0, hi, hz0, hz1, hz2⟩ := info_parts info_byte
  have q22 : ∀ (w : World) (a : Option Addr) (n c n' c' : Nat), (binOp .eql 41 (.slice a n c) (.slice none n' c')).run Try.prog w = .ok (.bool a.isNone) w := fun w a n c n' c' => Lib.run_eql_slice_nil w _ _ a n c n' c' Try.underlying41
  have A := Lib.hid hr
  clear hr
  have H1 := Lib.hid h1; clear h1
  have HV := Lib.hid hV; clear hV
  go_enter Try.func135, Try.ntmps135
  go_wp2_with (at_builtin; refine wpList_append_own _ rfl _ _ 41 rfl w.heap.size 5 i0 (.int .u8 0) 1 1 Try.underlying41 hi hz0 hz1 hz2 rfl (by decide) _ _ _ rfl (World.ownsRow_made w #[] 0 (Nat.le_refl _) (Nat.zero_le _) rfl) ⟨g, o, none⟩ n c V rfl ?qc1 ?qc2 ?qc3 ?qc4 ?qc5 ?qc6 ?_)
  case qc1 => rw [HV.out]; omega
  case qc2 =>
    intro j u hj
    refine Lib.cell?_alloc_some _ ?_
    rw [Addr.add_mid]
    exact A.out j u hj
  case qc3 => exact H1.out
  case qc4 => unfold maxLen; omega
  case qc5 => omega
  case qc6 => simp
  intro v' w1 hown hgrow hnil
  go_wp2
  go_ret
  refine ⟨v', rfl, by simpa using hown, ?_⟩
  exact ((Below.refl _ w).alloc (Nat.le_refl _) _).grown hgrow (by simp) (by intro k hk; simp [Value.ownBlock] at hk; omega)


theorem own_mono {w : World} {base base' : Nat} {e : TypeId} {size : Nat} {v : Value} {n : Nat} {xs : List Value} (h : w.ownsRow base e size v n xs) (hb : base' ≤ base) : w.ownsRow base' e size v n xs := by
  refine ⟨h.1, ?_⟩
  rcases h.2 with hn | ⟨g, cap, cur, hv, hb0, rest⟩
  · exact .inl hn
  · exact .inr ⟨g, cap, cur, hv, Nat.le_trans hb hb0, rest⟩
/-- Two rows of unlike elements lie apart. -/
theorem own_apart {w : World} {b1 b2 : Nat} {e1 e2 : TypeId} {s1 s2 : Nat} {v1 v2 : Value} {n1 n2 : Nat} {x1 x2 : List Value} (h1 : w.ownsRow b1 e1 s1 v1 n1 x1) (h2 : w.ownsRow b2 e2 s2 v2 n2 x2) (hne : e1 ≠ e2) : v1.ownBlock = none ∨ v1.ownBlock ≠ v2.ownBlock := by
  rcases h1.2 with ⟨hn, _⟩ | ⟨g, cap, cur, hv, _, hg, _⟩
  · exact .inl (by rw [hn]; rfl)
  · right
    rw [hv]
    exact own_ne h2 hg hne

/-- A history in memory: each a place and a slice of bytes of its own. -/
def sayCells (l : List (Nat × List UInt8 × Nat × Nat)) : List Value := l.flatMap fun p => [.int .i64 (p.1 : Int), .slice (some ⟨p.2.2.1, 0, none⟩) 512 p.2.2.2]
theorem sayCells_length (l : List (Nat × List UInt8 × Nat × Nat)) : (sayCells l).length = l.length * 2 := by
  induction l with
  | nil => rfl
  | cons x l ih => simp only [sayCells, List.flatMap_cons, List.length_append, List.length_cons, List.length_nil] at ih ⊢; omega
structure SaysAt (w : World) (base : Nat) (v : Value) (l : List (Nat × List UInt8 × Nat × Nat)) : Prop where
  row : w.ownsRow base 51 2 v l.length (sayCells l)
  own : ∀ x ∈ l, w.ownsRow base 5 1 (.slice (some ⟨x.2.2.1, 0, none⟩) 512 x.2.2.2) 512 (bytesV x.2.1)

theorem histCells_get (l : List (Nat × List UInt8 × Nat)) : ∀ (k : Nat) (x : Nat × List UInt8 × Nat) (j : Nat), l[k]? = some x → j < 2 → (histCells l)[k * 2 + j]? = [Value.int .i64 (x.1 : Int), .slice (some ⟨x.2.2, 0, none⟩) 512 512][j]? := by
  induction l with
  | nil => intro k x j h; simp at h
  | cons y l ih =>
    intro k x j h hj
    have e : histCells (y :: l) = [.int .i64 (y.1 : Int), .slice (some ⟨y.2.2, 0, none⟩) 512 512] ++ histCells l := by simp [histCells]
    rw [e]
    cases k with
    | zero =>
      obtain rfl : y = x := by simpa using h
      rw [List.getElem?_append_left (by simp; omega)]
      simp
    | succ k =>
      rw [List.getElem?_append_right (by simp; omega)]
      simp only [List.length_cons, List.length_nil]
      rw [show (k + 1) * 2 + j - (0 + 1 + 1) = k * 2 + j by omega]
      exact ih k x j (by simpa using h) hj

section
variable {w : World} {d : Nat} {D : DS} {S : Nat → Prop} {bk : Nat} {pv av : Value} {H : List (Nat × List UInt8 × Nat)}

theorem History_nil (w : World) : Calls Try.prog 53 #[.pointer none] w fun e w' => e = .returned (.slice none 0 0) ∧ w = w' := by
  go_enter Try.func53, Try.ntmps53
  go_wp2_with fail
  go_ret
  exact ⟨rfl, rfl⟩

set_option maxRecDepth 100000 in
set_option maxHeartbeats 2000000 in
theorem History_any (h : DiskP w d D S bk pv av H) :
    Calls Try.prog 53 #[.pointer (some ⟨d, 0, none⟩)] w fun e w' => ∃ v HH, e = .returned v ∧ SaysAt w' w.heap.size v HH ∧ D.hist = HH.map (fun x => (x.1, x.2.1)) ∧ Below w.heap.size w w' := by
  obtain ⟨c0, c1, c2, c3, c4, c5, hf⟩ := h.cells
  obtain ⟨A, cap, rfl, hA⟩ : ∃ A cap, av = .slice A D.hist.length cap ∧ (0 < D.hist.length → ∃ g, A = some ⟨g, 0, none⟩) := by
    rcases h.hist.2 with ⟨rfl, h0⟩ | ⟨g, cap, _, rfl, _⟩
    · exact ⟨none, 0, by rw [h0], fun h => by omega⟩
    · exact ⟨_, cap, rfl, fun _ => ⟨g, rfl⟩⟩
  have hlenH : D.hist.length = H.length := by rw [h.hsay, List.length_map]
  have hsmall := h.small.2.1
  obtain ⟨i1, hi1, hi1z, hi1s, hi1b⟩ := info_parts info_write
  have Hh := Lib.hid h; clear h
  have HA := Lib.hid hA; clear hA
  have Hi1 := Lib.hid hi1; clear hi1
  go_enter Try.func53, Try.ntmps53
  go_wp2_with fail
  go_loopw [2, 12] (fun v i wr => ∃ k : Nat, k ≤ D.hist.length ∧ i = .int .i64 k ∧ ∃ HH, SaysAt wr w.heap.size v HH ∧ HH.map (fun x => (x.1, x.2.1)) = D.hist.take k ∧ Below w.heap.size w wr) (fun _ i _ => D.hist.length - (intOf i).toNat)
  case atStart => exact ⟨0, by omega, rfl, [], ⟨World.ownsRow_nil _ _ _ _, fun x hx => by simp at hx⟩, rfl, by ((repeat (first | (with_reducible exact Bnil _) | (with_reducible assumption) | (with_reducible refine Bset ?_ ?_ _) | (with_reducible refine Bnew ?_ _) | (with_reducible refine Bdrew ?_) | (with_reducible refine Bthen ?_ (by assumption)))); all_goals (simp; try omega))⟩
  case round =>
    obtain ⟨k, hk, rfl, HH, hsay, hmap, hbel⟩ := hrel
    by_cases hlt : k < D.hist.length
    · obtain ⟨g, rfl⟩ := HA.out (by omega)
      obtain ⟨⟨q, b, nb⟩, hqb⟩ : ∃ x, H[k]? = some x := ⟨_, List.getElem?_eq_getElem (by omega)⟩
      have hmem := List.mem_of_getElem? hqb
      obtain ⟨hblk, _, hbl⟩ := Hh.out.hblk _ hmem
      simp only at hblk hbl
      have hq0 : w.cell? ⟨g, k * 2, none⟩ = some (.int .i64 (q : Int)) := by
        have := Hh.out.hist.cellAt (k * 2 + 0) (by omega)
        rw [histCells_get H k _ 0 hqb (by omega)] at this
        simpa using this
      have hq1 : w.cell? ⟨g, k * 2 + 1, none⟩ = some (.slice (some ⟨nb, 0, none⟩) 512 512) := by
        have := Hh.out.hist.cellAt (k * 2 + 1) (by omega)
        rw [histCells_get H k _ 1 hqb (by omega)] at this
        simpa using this
      have hgl : g < w.heap.size := World.block_lt_of_cell? w _ hq0
      have r0 := (hbel.cell (p := ⟨g, k * 2, none⟩) hgl).trans hq0
      have r1 := (hbel.cell (p := ⟨g, k * 2 + 1, none⟩) hgl).trans hq1
      have hkn : (k : Int) < (D.hist.length : Int) := by omega
      have Hqb := Lib.hid hqb; clear hqb
      have Hblk := Lib.hid hblk; clear hblk
      have hzr := hbel.size
      clear hq0 hq1 hmem
      go_wp2_with fail
      have hx0 : (wr.alloc (.cells #[.int .i64 (q : Int), .slice (some ⟨nb, 0, none⟩) 512 512] 51)).cell? ⟨wr.heap.size, 0, none⟩ = some (.int .i64 (q : Int)) := by
        rw [cell_of_row _ _ _ _ _ _ (heap_alloc_new wr _)]; rfl
      have hx1 : (wr.alloc (.cells #[.int .i64 (q : Int), .slice (some ⟨nb, 0, none⟩) 512 512] 51)).cell? ⟨wr.heap.size, 1, none⟩ = some (.slice (some ⟨nb, 0, none⟩) 512 512) := by
        rw [cell_of_row _ _ _ _ _ _ (heap_alloc_new wr _)]; rfl
      have hz1 : wr.heap.size < (wr.alloc (.cells #[.int .i64 (q : Int), .slice (some ⟨nb, 0, none⟩) 512 512] 51)).heap.size := by simp
      have hb1 : Below wr.heap.size wr (wr.alloc (.cells #[.int .i64 (q : Int), .slice (some ⟨nb, 0, none⟩) 512 512] 51)) := Bbox _ _
      have hnbl := blk_lt Hblk.out
      have hnb : (wr.alloc (.cells #[.int .i64 (q : Int), .slice (some ⟨nb, 0, none⟩) 512 512] 51)).rangeAt nb 0 (bytesV b) := fun j v hv => by
        rw [cell_of_row _ _ _ _ _ _ (((Bthen hbel hb1).block nb hnbl).trans Hblk.out)]
        simpa using hv
      have Hnb := Lib.hid hnb; clear hnb
      generalize (wr.alloc (.cells #[.int .i64 (q : Int), .slice (some ⟨nb, 0, none⟩) 512 512] 51)) = W1 at hx0 hx1 hz1 hb1 Hnb ⊢
      refine wp_region_in (fun w' => w'.cell? ⟨wr.heap.size, 0, none⟩ = some (.int .i64 (q : Int)) ∧ w'.cell? ⟨wr.heap.size, 1, none⟩ = some (.slice (some ⟨nb, 0, none⟩) 512 512)) [(0, true), (1, true), (2, true), (3, true), (4, true), (5, false), (6, true), (7, false), (8, false), (9, true)] (by kernel_rfl) (by kernel_rfl) (fun _ _ _ _ _ h => h) ⟨hx0, hx1⟩ (fun hne => ?_)
      have hs0 : ∀ x : InS (fun w' => w'.cell? ⟨wr.heap.size, 0, none⟩ = some (.int .i64 (q : Int)) ∧ w'.cell? ⟨wr.heap.size, 1, none⟩ = some (.slice (some ⟨nb, 0, none⟩) 512 512)), x.w.cell? ⟨wr.heap.size, 0, none⟩ = some (.int .i64 (q : Int)) := fun x => x.h.1
      have hs1 : ∀ x : InS (fun w' => w'.cell? ⟨wr.heap.size, 0, none⟩ = some (.int .i64 (q : Int)) ∧ w'.cell? ⟨wr.heap.size, 1, none⟩ = some (.slice (some ⟨nb, 0, none⟩) 512 512)), x.w.cell? ⟨wr.heap.size, 1, none⟩ = some (.slice (some ⟨nb, 0, none⟩) 512 512) := fun x => x.h.2
      simp only [permOps, List.map_cons, List.map_nil, List.getD_cons_zero, List.getD_cons_succ]
      (iterate 5 ((with_reducible refine wpPerm_F ?_); intro K hK; go_simp; refine hK _ _ ?_; clear hK K))
      (with_reducible refine wpPerm_E rfl ?_); intro K hK
      go_wp2_with fail
      refine (Clone_any nb 0 512 512 (bytesV b) W1.drew (by rw [bytesV_length, hbl]) (by decide) (bytesV_one b) (fun j v hv => Hnb.out j v hv)).mono ?_
      rintro e w2 ⟨v2, rfl, hown2, hb2⟩
      obtain ⟨g2, cap2, hv2⟩ := own_succ hown2
      obtain rfl : v2 = .slice (some ⟨g2, 0, none⟩) 512 cap2 := hv2
      have hb2' : Below W1.heap.size W1 w2 := Bthen (Bdrew (Bnil W1)) hb2
      have hz2 := hb2'.size
      have hx0b := (hb2'.cell (p := ⟨wr.heap.size, 0, none⟩) hz1).trans hx0
      have hx1b := (hb2'.cell (p := ⟨wr.heap.size, 1, none⟩) hz1).trans hx1
      (refine hK _ _ ?_; clear hK K)
      refine ⟨⟨⟨_, hx0b, hx1b⟩, rfl⟩, ?_⟩
      (iterate 1 ((with_reducible refine wpPerm_F ?_); intro K hK; go_simp; refine hK _ _ ?_; clear hK K))
      (with_reducible refine wpPerm_E rfl ?_); intro K hK
      go_wp2_with fail
      have hb3 : Below wr.heap.size wr w2 := Bthen hb1 hb2'
      have hbel2 : Below w.heap.size w w2 := Bthen hbel hb3
      have hx0c : (w2.alloc (.cells #[.int .i64 (q : Int), .slice (some ⟨g2, 0, none⟩) 512 cap2] 51)).cell? ⟨wr.heap.size, 0, none⟩ = some (.int .i64 (q : Int)) := ((Bbox w2 _).cell (p := ⟨wr.heap.size, 0, none⟩) (show wr.heap.size < w2.heap.size by omega)).trans hx0b
      have hx1c : (w2.alloc (.cells #[.int .i64 (q : Int), .slice (some ⟨g2, 0, none⟩) 512 cap2] 51)).cell? ⟨wr.heap.size, 1, none⟩ = some (.slice (some ⟨nb, 0, none⟩) 512 512) := ((Bbox w2 _).cell (p := ⟨wr.heap.size, 1, none⟩) (show wr.heap.size < w2.heap.size by omega)).trans hx1b
      have hown0 : (w2.alloc (.cells #[.int .i64 (q : Int), .slice (some ⟨g2, 0, none⟩) 512 cap2] 51)).ownsRow w.heap.size 51 2 u2 HH.length (sayCells HH) := (own_below hsay.row hb3).alloc _
      have hownsA : ∀ x ∈ HH, (w2.alloc (.cells #[.int .i64 (q : Int), .slice (some ⟨g2, 0, none⟩) 512 cap2] 51)).ownsRow w.heap.size 5 1 (.slice (some ⟨x.2.2.1, 0, none⟩) 512 x.2.2.2) 512 (bytesV x.2.1) := fun x hx => (own_below (hsay.own x hx) hb3).alloc _
      have hown2A : (w2.alloc (.cells #[.int .i64 (q : Int), .slice (some ⟨g2, 0, none⟩) 512 cap2] 51)).ownsRow w.heap.size 5 1 (.slice (some ⟨g2, 0, none⟩) 512 cap2) 512 (bytesV b) := (own_mono hown2 (by have := hb1.size; show w.heap.size ≤ W1.heap.size; omega)).alloc _
      have hHl : HH.length = k := by have := congrArg List.length hmap; simpa [Nat.min_eq_left (Nat.le_of_lt hlt)] using this
      have Hx0c := Lib.hid hx0c
      have Hx1c := Lib.hid hx1c
      refine ⟨⟨⟨_, hx0c, hx1c⟩, rfl⟩, ?_⟩
      clear hx0b hx1b hx0c hx1c
      (with_reducible refine wpPerm_E rfl ?_); intro K hK
      have hi1 := Hi1.out
      refine wp_append_at _ _ 45 rfl w.heap.size 51 i1 _ 2 32 Try.underlying45 hi1 hi1z hi1s hi1b rfl (by decide) _ _ _ rfl hown0 ⟨w2.heap.size, 0, none⟩ 1 1 [.int .i64 (q : Int), .slice (some ⟨g2, 0, none⟩) 512 cap2] rfl rfl
        (World.news_of_block (heap_alloc_new w2 _)) (by simp [Value.oneCell']) (by unfold maxLen; omega) (by omega) (by have := hbel2.size; simp; omega) ?_
      intro v3 w3 hown3 hgrow3 hat3
      (refine hK _ _ ?_; clear hK K)
      have hrl := (hown0.lt)
      have hwne : some wr.heap.size ≠ u2.ownBlock := fun e => by
        have := (hsay.row.lt _ e.symm).2
        omega
      have hwl : wr.heap.size < (w2.alloc (.cells #[.int .i64 (q : Int), .slice (some ⟨g2, 0, none⟩) 512 cap2] 51)).heap.size := by simp; omega
      refine ⟨⟨⟨_, (hgrow3.cell (a := ⟨wr.heap.size, 0, none⟩) Hx0c.out hwne), (hgrow3.cell (a := ⟨wr.heap.size, 1, none⟩) Hx1c.out hwne)⟩, rfl⟩, ?_⟩
      (iterate 1 ((with_reducible refine wpPerm_F ?_); intro K hK; go_simp; refine hK _ _ ?_; clear hK K))
      have hsay3 : SaysAt w3 w.heap.size v3 (HH ++ [(q, b, g2, cap2)]) := by
        refine ⟨?_, fun x hx => ?_⟩
        · rw [List.length_append, sayCells, List.flatMap_append]
          simpa [sayCells] using hown3
        · rcases List.mem_append.1 hx with hx | hx
          · exact (hownsA x hx).kept hgrow3 (own_apart (hownsA x hx) hown0 (by decide))
          · obtain rfl : x = (q, b, g2, cap2) := by simpa using hx
            exact hown2A.kept hgrow3 (own_apart hown2A hown0 (by decide))
      have hmap3 : (HH ++ [(q, b, g2, cap2)]).map (fun x => (x.1, x.2.1)) = D.hist.take (k + 1) := by
        have : D.hist[k]? = some (q, b) := by rw [Hh.out.hsay, List.getElem?_map, Hqb.out]; rfl
        rw [List.map_append, hmap, List.take_add_one, this]
        rfl
      have hbel3 : Below w.heap.size w w3 := (Bnew hbel2 _).grown hgrow3 (by have := hbel2.size; simp; omega) (fun j hj => (hown0.lt j hj).1)
      clear hown3 hgrow3 hat3 hown0 hownsA hown2A hsay hmap hs0 hs1
      go_wp2_with fail
      apply_assumption
      go_wp2_with fail
      go_roundw
      case rel => exact ⟨k + 1, by omega, by go_num, _, hsay3, hmap3, hbel3⟩
      case measure => simp [intOf]; omega
    · have hkl : D.hist.take k = D.hist := List.take_of_length_le (by omega)
      rw [hkl] at hmap
      have Hmap := Lib.hid hmap; clear hmap
      have hkn : ¬ (k : Int) < (D.hist.length : Int) := by omega
      go_wp2_with fail
      go_ret
      exact ⟨_, rfl, HH, hsay, Hmap.out.symm, hbel⟩

end
end Go.Proofs.Ytdjndeleafhglaa
namespace Go.Proofs.Ytdjndeleafhglaa
open Go.RowKit

theorem Down_nil (w : World) : Calls Try.prog 75 #[.pointer none] w fun e w' => e = .returned (.bool false) ∧ Below w.heap.size w w' := by
  go_enter Try.func75, Try.ntmps75
  go_wp2
  go_ret
  exact ⟨rfl, by ((repeat (first | (with_reducible exact Bnil _) | (with_reducible assumption) | (with_reducible refine Bset ?_ ?_ _) | (with_reducible refine Bnew ?_ _) | (with_reducible refine Bdrew ?_) | (with_reducible refine Bthen ?_ (by assumption)))); all_goals (simp; try omega))⟩
theorem DSize_nil (w : World) : Calls Try.prog 77 #[.pointer none] w fun e w' => e = .returned (.int .i64 0) ∧ w = w' := by
  go_enter Try.func77, Try.ntmps77
  go_wp2
  go_ret
  exact ⟨rfl, rfl⟩
theorem DCalls_nil (w : World) : Calls Try.prog 76 #[.pointer none] w fun e w' => e = .returned (.int .i64 0) ∧ w = w' := by
  go_enter Try.func76, Try.ntmps76
  go_wp2
  go_ret
  exact ⟨rfl, rfl⟩
theorem Pending_nil (w : World) : Calls Try.prog 79 #[.pointer none] w fun e w' => e = .returned (.slice none 0 0) ∧ w = w' := by
  go_enter Try.func79, Try.ntmps79
  go_wp2
  go_ret
  exact ⟨rfl, rfl⟩
theorem Put_nil (p : Int) (A : Option Addr) (n c : Nat) (w : World) : Calls Try.prog 48 #[.pointer none, .int .i64 p, .slice A n c] w fun e w' => e = .returned (.int .i64 1) ∧ w = w' := by
  go_enter Try.func48, Try.ntmps48
  go_wp2_with fail
  refine (asked_nil _ _).mono ?_; rintro e w1 ⟨rfl, rfl⟩
  go_wp2
  go_ret
  exact ⟨rfl, rfl⟩
set_option maxRecDepth 100000 in
theorem Write_nil (p : Int) (A : Option Addr) (n c : Nat) (w : World) : Calls Try.prog 50 #[.pointer none, .int .i64 p, .slice A n c] w fun e w' => e = .returned (.int .i64 1) ∧ Below w.heap.size w w' := by
  go_enter Try.func50, Try.ntmps50
  go_wp2_with fail
  refine (Down_nil _).mono ?_; rintro e w1 ⟨rfl, hb⟩
  go_wp2_with fail
  refine (asked_nil _ _).mono ?_; rintro e w2 ⟨rfl, rfl⟩
  go_wp2
  go_ret
  exact ⟨rfl, hb⟩

end Go.Proofs.Ytdjndeleafhglaa
namespace Go.Proofs.Ytdjndeleafhglaa
open Go.RowKit Go.Shelf

attribute [local go_sem] Oper.semAt_some

/-- What a read finds: the newest wait at the place, else what is kept. -/
def readD (D : DS) (p : Nat) : List UInt8 := ((D.pend.reverse.find? fun x => x.1 == p).map (·.2)).getD (D.kept p)

theorem readD_at {D : DS} {p : Nat} {ini : List (Nat × List UInt8)} {b : List UInt8} (hp : (ini ++ [(p, b)]) <+: D.pend.reverse) (hi : ∀ y ∈ ini, y.1 ≠ p) : readD D p = b := by
  obtain ⟨t, ht⟩ := hp
  unfold readD
  rw [← ht, List.append_assoc, List.find?_append, List.find?_eq_none.2 (fun y hy => by simpa using hi y hy)]
  simp
theorem readD_none {D : DS} {p : Nat} (hi : ∀ y ∈ D.pend.reverse, y.1 ≠ p) : readD D p = D.kept p := by
  unfold readD
  rw [List.find?_eq_none.2 (fun y hy => by simpa using hi y hy)]
  rfl

/-- A block of cells lies as it lay where only fresh blocks that are no cells turn. -/
theorem block_own {α : Type} (B : Nat) (f : α → Array Value) (t : TypeId) : Own (fun s W => W.heap[B]? = some (.cells (f s) t (0, 0))) := fun s X Y row hs hg hrow =>
  (hg.block B (Array.getElem?_eq_some_iff.1 hs).1 (fun e => by obtain ⟨o, ho, hc⟩ := hrow B e.symm; rw [show X.heap[B]? = _ from hs] at ho; cases ho; cases hc)).trans hs

theorem wpIn_scope_wide {n : Nat} {P : Program} {c : Code} {Q : Exit → Act → World → Prop} {a : Act} {w : World} (h : c.wpIn Fence.wide n P (Exit.noGoto Q) a w) : (Code.scope c).wpIn Fence.wide n P Q a w :=
  wpIn_wide.2 (wp_scope_straight (wpIn_wide.1 h))

section
variable {w : World} {d : Nat} {D : DS} {S : Nat → Prop} {bk : Nat} {pv av : Value} {H : List (Nat × List UInt8 × Nat)}


theorem Boxed_keep {W W' : World} {B : Nat} {t : TypeId} {v : Value} (h : Boxed W B t v) (hb : Below W.heap.size W W') : Boxed W' B t v := (hb.block B h.lt).trans h

/-- The three boxes of a read. -/
def W3 (w : World) (p : Int) : World := ((w.alloc (.cells #[.int .i64 p] 3)).alloc (.cells #[.slice none 0 0] 41)).alloc (.cells #[.int .i64 0] 37)
theorem W3_b (w : World) (p : Int) : Below w.heap.size w (W3 w p) := by unfold W3; ((repeat (first | (with_reducible exact Bnil _) | (with_reducible assumption) | (with_reducible refine Bset ?_ ?_ _) | (with_reducible refine Bnew ?_ _) | (with_reducible refine Bdrew ?_) | (with_reducible refine Bthen ?_ (by assumption)))); all_goals (simp; try omega))
theorem W3_size (w : World) (p : Int) : (W3 w p).heap.size = w.heap.size + 3 := by unfold W3; simp
theorem W3_0 (w : World) (p : Int) : Boxed (W3 w p) w.heap.size 3 (.int .i64 p) := by
  exact ((Boxed.new w _ _).alloc _).alloc _
theorem W3_1 (w : World) (p : Int) : Boxed (W3 w p) (w.heap.size + 1) 41 (.slice none 0 0) := by
  have := (Boxed.new (w.alloc (.cells #[.int .i64 p] 3)) 41 (.slice none 0 0)).alloc (.cells #[.int .i64 0] 37)
  rw [World.size_alloc] at this
  exact this
theorem W3_2 (w : World) (p : Int) : Boxed (W3 w p) (w.heap.size + 1 + 1) 37 (.int .i64 0) := by
  have := Boxed.new ((w.alloc (.cells #[.int .i64 p] 3)).alloc (.cells #[.slice none 0 0] 41)) 37 (.int .i64 0)
  rw [World.size_alloc, World.size_alloc] at this
  exact this

set_option maxRecDepth 100000 in
set_option maxHeartbeats 1000000 in
theorem Read_nil (p : Int) (w : World) : Calls Try.prog 83 #[.pointer none, .int .i64 p] w fun e w' => e = .returned (.tuple #[.slice none 0 0, .int .i64 1]) ∧ Below w.heap.size w w' := by
  refine (callsIn_wide (n := 9)).1 ?_
  refine callsIn_of_wp Try.func83 rfl trivial ?_ rfl
  simp only [Try.ntmps83, List.size_toArray, List.length_cons, List.length_nil, Nat.reduceAdd, Nat.reduceSub, Array.replicate_succ, Array.replicate_zero, List.push_toArray, List.append_toArray, List.nil_append, List.cons_append]
  gi_wp2_with fail
  refine wpIn_scope_wide ?_
  have h0 := W3_0 w p
  have h1 := W3_1 w p
  have h2 := W3_2 w p
  have hz := W3_size w p
  have hb0 := W3_b w p
  change Code.wpIn _ _ _ _ _ _ (W3 w p)
  generalize W3 w p = W0 at h0 h1 h2 hz hb0 ⊢
  gi_wp2_with fail
  refine ⟨trivial, (callsIn_wide.2 (Down_nil _)).mono ?_⟩
  rintro e w1 ⟨rfl, hb⟩
  have h0 := (Boxed_keep h0 hb).cell
  have h1' := Boxed_keep h1 hb
  have h2' := Boxed_keep h2 hb
  have hb1 := Bthen hb0 hb
  clear hb hb0 hz h1 h2
  have h1 := h1'.cell
  have h2 := h2'.cell
  have h1f := h1'.frozen
  have h2f := h2'.frozen
  clear h1' h2'
  gi_wp2_with fail
  refine ⟨trivial, (callsIn_wide.2 (asked_nil _ _)).mono ?_⟩
  rintro e w2 ⟨rfl, rfl⟩
  gi_wp2_with fail
  rw [Exit.noGoto_ret]
  refine bodyPost_ret (v := .tuple #[.slice none 0 0, .int .i64 1]) ?_ rfl ?_
  · simp [results, Try.f83, go_sem, h1, h2]
  · refine ⟨rfl, Bset (Bset hb1 ?_ _) ?_ _⟩ <;> simp <;> omega

set_option maxRecDepth 100000 in
set_option maxHeartbeats 1000000 in
theorem Read_down (p : Int) (h : DiskP w d D S bk pv av H) (hd : D.down = true) :
    Calls Try.prog 83 #[.pointer (some ⟨d, 0, none⟩), .int .i64 p] w fun e w' => e = .returned (.tuple #[.slice none 0 0, .int .i64 12]) ∧ Below w.heap.size w w' := by
  refine (callsIn_wide (n := 9)).1 ?_
  refine callsIn_of_wp Try.func83 rfl trivial ?_ rfl
  simp only [Try.ntmps83, List.size_toArray, List.length_cons, List.length_nil, Nat.reduceAdd, Nat.reduceSub, Array.replicate_succ, Array.replicate_zero, List.push_toArray, List.append_toArray, List.nil_append, List.cons_append]
  gi_wp2_with fail
  refine wpIn_scope_wide ?_
  have h0 := W3_0 w p
  have h1 := W3_1 w p
  have h2 := W3_2 w p
  have hz := W3_size w p
  have hb0 := W3_b w p
  change Code.wpIn _ _ _ _ _ _ (W3 w p)
  generalize W3 w p = W0 at h0 h1 h2 hz hb0 ⊢
  have hd0 := h.below hb0
  have Hh := Lib.hid h; clear h
  have c0 := h0.cell
  have c1 := h1.cell
  have c2 := h2.cell
  have f1 := h1.frozen
  have f2 := h2.frozen
  clear h0 h1 h2
  gi_wp2_with fail
  refine ⟨trivial, (callsIn_wide.2 (Down_any hd0)).mono ?_⟩
  rintro e w1 ⟨rfl, rfl⟩
  gi_wp2_with fail
  rw [Exit.noGoto_ret]
  refine bodyPost_ret (v := .tuple #[.slice none 0 0, .int .i64 12]) ?_ rfl ?_
  · simp [results, Try.f83, go_sem, c1, c2]
  · refine ⟨rfl, Bset (Bset hb0 ?_ _) ?_ _⟩ <;> simp <;> omega

set_option maxRecDepth 100000 in
set_option maxHeartbeats 1000000 in
theorem Read_range (p : Int) (h : DiskP w d D S bk pv av H) (hd : D.down = false) (hp : p < 0 ∨ (D.n : Int) ≤ p) :
    Calls Try.prog 83 #[.pointer (some ⟨d, 0, none⟩), .int .i64 p] w fun e w' => e = .returned (.tuple #[.slice none 0 0, .int .i64 2]) ∧ Below w.heap.size w w' := by
  have ha : askedD D p = 2 := by unfold askedD; rw [if_pos hp]
  refine (callsIn_wide (n := 9)).1 ?_
  refine callsIn_of_wp Try.func83 rfl trivial ?_ rfl
  simp only [Try.ntmps83, List.size_toArray, List.length_cons, List.length_nil, Nat.reduceAdd, Nat.reduceSub, Array.replicate_succ, Array.replicate_zero, List.push_toArray, List.append_toArray, List.nil_append, List.cons_append]
  gi_wp2_with fail
  refine wpIn_scope_wide ?_
  have h0 := W3_0 w p
  have h1 := W3_1 w p
  have h2 := W3_2 w p
  have hz := W3_size w p
  have hb0 := W3_b w p
  change Code.wpIn _ _ _ _ _ _ (W3 w p)
  generalize W3 w p = W0 at h0 h1 h2 hz hb0 ⊢
  have hd0 := h.below hb0
  have Hh := Lib.hid h; clear h
  have c0 := h0.cell
  have c1 := h1.cell
  have c2 := h2.cell
  have f1 := h1.frozen
  have f2 := h2.frozen
  clear h0 h1 h2
  gi_wp2_with fail
  refine ⟨trivial, (callsIn_wide.2 (Down_any hd0)).mono ?_⟩
  rintro e w1 ⟨rfl, rfl⟩
  gi_wp2_with fail
  refine ⟨trivial, (callsIn_wide.2 (asked_any p hd0)).mono ?_⟩
  rintro e w1 ⟨rfl, rfl⟩
  rw [ha]
  gi_wp2_with fail
  rw [Exit.noGoto_ret]
  refine bodyPost_ret (v := .tuple #[.slice none 0 0, .int .i64 2]) ?_ rfl ?_
  · simp [results, Try.f83, go_sem, c1, c2]
  · refine ⟨rfl, Bset (Bset hb0 ?_ _) ?_ _⟩ <;> simp <;> omega

set_option maxRecDepth 100000 in
set_option maxHeartbeats 1000000 in
theorem Read_yes (p : Nat) (h : DiskP w d D S bk pv av H) (hd : D.down = false) (hp : p < D.n) :
    Calls Try.prog 83 #[.pointer (some ⟨d, 0, none⟩), .int .i64 p] w fun e w' => ∃ g o, e = .returned (.tuple #[.slice (some ⟨g, o, none⟩) 512 512, .int .i64 0]) ∧ w.heap.size ≤ g ∧ w'.rangeAt g o (bytesV (readD D p)) ∧ Below w.heap.size w w' := by
  have ha : askedD D p = 0 := by unfold askedD; rw [if_neg (by omega)]
  obtain ⟨A, cap, rfl, hA⟩ : ∃ A cap, pv = .slice A D.pend.length cap ∧ (A = none ∧ D.pend = [] ∧ cap = 0 ∨ ∃ g, A = some ⟨g, 0, none⟩) := by
    rcases h.pend.2 with ⟨rfl, h0⟩ | ⟨g, cap, _, rfl, _⟩
    · exact ⟨none, 0, by rw [h0], .inl ⟨rfl, List.length_eq_zero_iff.1 h0, rfl⟩⟩
    · exact ⟨_, cap, rfl, .inr ⟨g, rfl⟩⟩
  obtain ⟨rs, hrl, hrm, hra⟩ := backs_of D.pend (fun x hx => (h.plen x hx).2)
  refine (callsIn_wide (n := 9)).1 ?_
  refine callsIn_of_wp_marks Try.func83 rfl trivial ?_ rfl
  simp only [Try.ntmps83, List.size_toArray, List.length_cons, List.length_nil, Nat.reduceAdd, Nat.reduceSub, Array.replicate_succ, Array.replicate_zero, List.push_toArray, List.append_toArray, List.nil_append, List.cons_append]
  gi_wp2_with fail
  refine wpIn_scope_wide ?_
  have h0 := W3_0 w (p : Int)
  have h1 := W3_1 w (p : Int)
  have h2 := W3_2 w (p : Int)
  have hz := W3_size w (p : Int)
  have hb0 := W3_b w (p : Int)
  change Code.wpIn _ _ _ _ _ _ (W3 w (p : Int))
  generalize W3 w (p : Int) = W0 at h0 h1 h2 hz hb0 ⊢
  have hd0 := h.below hb0
  have Hh := Lib.hid h; clear h
  have c0 := h0.cell
  have c1 := h1.cell
  have c2 := h2.cell
  obtain ⟨k0, k1, k2, k3, k4, k5, kf⟩ := hd0.cells
  clear k0 k2 k3 k4 k5
  have Hd0 := Lib.hid hd0; clear hd0
  gi_wp2_with fail
  refine ⟨trivial, (callsIn_wide.2 (Down_any Hd0.out)).mono ?_⟩
  rintro e w1 ⟨rfl, rfl⟩
  rw [hd]
  gi_wp2_with fail
  refine ⟨trivial, (callsIn_wide.2 (asked_any p Hd0.out)).mono ?_⟩
  rintro e w1 ⟨rfl, rfl⟩
  rw [ha]
  gi_wp2_with fail
  refine wpIn_label ?_
  gi_wp2_with fail
  refine ⟨trivial, (callsIn_wide.2 (Backward_any _ _ _ _)).mono ?_⟩
  rintro e w1 ⟨rfl, rfl⟩
  have hb1 : Below w.heap.size w (W0.alloc (.cells #[.slice A D.pend.length cap] 169)) := Bnew hb0 _
  have hz1 : (W0.alloc (.cells #[.slice A D.pend.length cap] 169)).heap.size = w.heap.size + 4 := by simp [hz]
  have e0 := h0.alloc (.cells #[.slice A D.pend.length cap] 169)
  have e1 := h1.alloc (.cells #[.slice A D.pend.length cap] 169)
  have e2 := h2.alloc (.cells #[.slice A D.pend.length cap] 169)
  have e3 := Boxed.new W0 169 (.slice A D.pend.length cap)
  rw [hz] at e3
  have hd1 := Hd0.out.below (Bbox W0 (.cells #[.slice A D.pend.length cap] 169))
  have Hd1 := Lib.hid hd1
  clear hd1 Hd0 c0 c1 c2 k1 kf h0 h1 h2 hb0
  rw [hz]
  generalize (W0.alloc (.cells #[.slice A D.pend.length cap] 169)) = W1 at hb1 hz1 e0 e1 e2 e3 Hd1 ⊢
  clear hz
  gi_wp2_with fail
  obtain ⟨b, hb, hsv⟩ : ∃ b, b < W1.heap.size ∧ ((Value.slice A D.pend.length cap = .slice none 0 0 ∧ rs = []) ∨ ∃ cap', Value.slice A D.pend.length cap = .slice (some ⟨b, 0, none⟩) rs.length cap' ∧ b < W1.heap.size ∧ ∀ (k : Nat) x, rs[k]? = some x → x.1 = (rs.length : Int) - 1 - (k : Int) ∧ W1.rangeAt b ((rs.length - 1 - k) * 513) x.2.cells) := by
    rcases hA with ⟨rfl, hn, rfl⟩ | ⟨g, rfl⟩
    · exact ⟨0, by omega, .inl ⟨by rw [hn]; rfl, List.length_eq_zero_iff.1 (by rw [hrl, hn]; rfl)⟩⟩
    · have hg : g < W1.heap.size := Hd1.out.ltS g (Hd1.out.ownS.2.2.1 g rfl)
      refine ⟨g, hg, .inr ⟨cap, by rw [hrl], hg, fun k x hx => ?_⟩⟩
      obtain ⟨q1, q2⟩ := hra k x hx
      rw [hrl]
      exact ⟨q1, pend_at Hd1.out.pend (fun y hy => (Hd1.out.plen y hy).2) rfl _ _ q2⟩
  have hmax : rs.length ≤ 1000000 := by have := Hd1.out.small.2.1; omega
  refine wpIn_rangeFunc_ownH rfl (by decide) (gf := 189) (lb := #[.pointer (some ⟨w.heap.size + 3, 0, none⟩)]) rfl trivial (enters_of Try.func189 (by kernel_rfl) rfl)
    (back_stops Fence.wide (9 - 1) trivial rfl (by decide) (w.heap.size + 3) b rs hmax _ W1 e3 hsv) (fun h k => h.trans k) (fun W l o o' hl _ _ _ => KeepTwo.put W l o' (by omega) (by omega)) (Below.refl _ _) (fun _ => rfl)
    (fun pre W => ((∀ y ∈ pre, y.2.1.1 ≠ p) ∧ Boxed W w.heap.size 3 (.int .i64 (p : Int)) ∧ Boxed W (w.heap.size + 1) 41 (.slice none 0 0) ∧ Boxed W (w.heap.size + 1 + 1) 37 (.int .i64 0)) ∧ Below w.heap.size w W)
    (fun c pre W => (c = .ret ∧ ∃ ini x Bx, pre = ini ++ [x] ∧ (∀ y ∈ ini, y.2.1.1 ≠ p) ∧ x.2.1.1 = p ∧ w.heap.size ≤ Bx ∧ W.heap[Bx]? = some (.cells x.2.cells.toArray 177 (0, 0)) ∧ Boxed W (w.heap.size + 1) 41 (.slice (some ⟨Bx, 1, none⟩) 512 512) ∧ Boxed W (w.heap.size + 1 + 1) 37 (.int .i64 0)) ∧ Below w.heap.size w W)
    (OwnFrom.and (Own.from (fun s X Y row hs hg hr => ⟨hs.1, boxed_own _ _ (fun _ => _) s X Y row hs.2.1 hg hr, boxed_own _ _ (fun _ => _) s X Y row hs.2.2.1 hg hr, boxed_own _ _ (fun _ => _) s X Y row hs.2.2.2 hg hr⟩) _) (ownFrom_below (Nat.le_refl _) (by omega)))
    (fun c => OwnFrom.and (Own.from (fun s X Y row hs hg hr => by
      obtain ⟨q0, ini, x, Bx, q1, q2, q3, q4, q5, q6, q7⟩ := hs
      exact ⟨q0, ini, x, Bx, q1, q2, q3, q4, block_own Bx (fun (_ : Unit) => _) _ () X Y row q5 hg hr, boxed_own _ _ (fun (_ : Unit) => _) () X Y row q6 hg hr, boxed_own _ _ (fun (_ : Unit) => _) () X Y row q7 hg hr⟩) _) (ownFrom_below (Nat.le_refl _) (by omega)))
    ⟨⟨by simp, e0, e1, e2⟩, hb1⟩
    (fun x a' W => ∃ Bx, w.heap.size + 1 + 1 < Bx ∧ W.heap[Bx]? = some (.cells x.2.cells.toArray 177 (0, 0)) ∧ a' = { tmps := #[.pointer (some ⟨d, 0, none⟩), .int .i64 (p : Int), undef, .pointer (some ⟨w.heap.size, 0, none⟩), .pointer (some ⟨w.heap.size + 1, 0, none⟩), .pointer (some ⟨w.heap.size + 1 + 1, 0, none⟩), .int .i64 0, undef, .pointer (some ⟨Bx, 0, none⟩), .pointer (some ⟨d, 0, none⟩), .bool false, .pointer (some ⟨d, 0, none⟩), .int .i64 (p : Int), .int .i64 0, .int .i64 0, .bool false, undef, .pointer (some ⟨d, 0, none⟩), .pointer (some ⟨d, 0, none⟩), .pointer (some ⟨d, 1, none⟩), .slice A D.pend.length cap, .func (.func 189) #[] #[.pointer (some ⟨w.heap.size + 3, 0, none⟩)], .int .i64 x.1, .agg x.2.cells.toArray, undef, undef, undef, undef, undef, undef, undef, undef, undef], defers := [] })
    (fun x a' s X Y row hs hg hr => by
      obtain ⟨Bx, q1, q2, q3⟩ := hs
      exact ⟨Bx, q1, block_own Bx (fun (_ : Unit) => _) _ () X Y row q2 hg (fun r e => (hr r e).2), q3⟩)
    ?assign ?body ?done ?stop
  case assign =>
    rintro l pre x W K ⟨⟨hp1, b0, b1, b2⟩, hB1⟩ hK
    have hxl := x.2.cells_length
    have hx1 := x.2.cells_one
    obtain ⟨U, hU⟩ : ∃ U : List Value, U = x.2.cells := ⟨_, rfl⟩
    rw [← hU] at hxl hx1
    simp only [← hU] at hK ⊢
    have HU := Lib.hid hU; clear hU
    have H1 := Lib.hid hx1; clear hx1
    gi_wp2_with fail
    rw [run_storeCells_fresh W _ U _ (by rw [hxl]; exact zero_wait_size) H1.out]
    gi_wp2_with fail
    exact hK _ _ ((KeepsOthers.alloc _ _).from _) (KeepTwo.alloc W _) ⟨⟨hp1, b0.alloc _, b1.alloc _, b2.alloc _⟩, Bnew hB1 _⟩ ⟨W.heap.size, b2.lt, heap_alloc_new W _, rfl⟩
  case body =>
    rintro l pre x a' W hl _ ⟨⟨hp1, b0, b1, b2⟩, hB1⟩ ⟨Bx, hBx, bX, rfl⟩ hlt
    have d0 := b0.cell
    have d1 := b1.cell
    have d2 := b2.cell
    have g1 := b1.frozen
    have g2 := b2.frozen
    have dx : W.cell? ⟨Bx, 0, none⟩ = some (.int .i64 (x.2.1.1 : Int)) := by rw [cell_of_row _ _ _ _ _ _ bX]; simp [Wt.cells]
    have BX := Lib.hid bX; clear bX
    by_cases hx : x.2.1.1 = p
    · have hx' : (x.2.1.1 : Int) = (p : Int) := by rw [hx]
      rw [hx'] at dx
      gi_wp2_with fail
      refine ⟨((KeepsOthers.setCell _ _ _).from _).trans ((KeepsOthers.setCell _ _ _).from _), ⟨rfl, pre, x, Bx, rfl, hp1, hx, by omega, ?_, (b1.set _).other (by omega) _, (b2.other (by omega) _).set _⟩,
        (hB1.setCell (p := ⟨w.heap.size + 1, 0, none⟩) (by simp) _).setCell (p := ⟨w.heap.size + 1 + 1, 0, none⟩) (by simp; omega) _⟩
      exact ((Below.heap_setCell _ _ _ _ (by simp; omega)).trans (Below.heap_setCell _ _ _ _ (by simp; omega))).trans BX.out
    · have hx' : ¬ (x.2.1.1 : Int) = (p : Int) := by omega
      gi_wp2_with fail
      refine ⟨KeepsFrom.refl _ _, KeepTwo.refl _ _ _, ⟨fun y hy => ?_, b0, b1, b2⟩, hB1⟩
      rcases List.mem_append.1 hy with hy | hy
      · exact hp1 y hy
      · rw [List.mem_singleton.1 hy]; exact hx
  case done =>
    rintro D0 ys W hD rfl ⟨⟨hp1, b0, b1, b2⟩, hB1⟩ hK
    have d0 := b0.cell
    have hall : readD D p = D.kept p := readD_none fun y hy => by
      rw [← hrm] at hy
      obtain ⟨z, hz, rfl⟩ := List.mem_map.1 hy
      exact hp1 z hz
    have hdW := Hh.out.below hB1
    have HdW := Lib.hid hdW; clear hdW
    have Hall := Lib.hid hall; clear hall
    have hKl := (Array.getElem?_eq_some_iff.1 hK).1
    have HK := Lib.hid hK; clear hK
    gi_wp2_with fail
    refine ⟨trivial, (callsIn_wide.2 (Kept_yes p HdW.out hp)).mono ?_⟩
    rintro e W4 ⟨rfl, hblk, hb4⟩
    have b1' := Boxed_keep b1 hb4
    have b2' := Boxed_keep b2 hb4
    have d1 := b1'.cell
    have d2 := b2'.cell
    have g1 := b1'.frozen
    have g2 := b2'.frozen
    have HK4 := Lib.hid ((hb4.block D0 hKl).trans HK.out)
    have Hblk := Lib.hid hblk; clear hblk
    have HB4 := Lib.hid (Bthen hB1 hb4)
    have hsz4 := hb4.size
    gi_wp2_with fail
    rw [Exit.noGoto_ret]
    have hW5 : ∀ k, k ≠ w.heap.size + 1 → k ≠ w.heap.size + 1 + 1 → ((W4.setCell ⟨w.heap.size + 1, 0, none⟩ (.slice (some ⟨W.heap.size, 0, none⟩) 512 512)).setCell ⟨w.heap.size + 1 + 1, 0, none⟩ (.int .i64 0)).heap[k]? = W4.heap[k]? := fun k h1 h2 =>
      (Below.heap_setCell _ _ _ _ (by simpa using h2)).trans (Below.heap_setCell _ _ _ _ (by simpa using h1))
    have hB5 := (HB4.out.setCell (p := ⟨w.heap.size + 1, 0, none⟩) (by simp) (.slice (some ⟨W.heap.size, 0, none⟩) 512 512)).setCell (p := ⟨w.heap.size + 1 + 1, 0, none⟩) (by simp; omega) (.int .i64 0)
    have j1 := (b1'.set (.slice (some ⟨W.heap.size, 0, none⟩) 512 512)).other (B' := w.heap.size + 1 + 1) (by omega) (.int .i64 0)
    have j2 := (b2'.other (B' := w.heap.size + 1) (by omega) (.slice (some ⟨W.heap.size, 0, none⟩) 512 512)).set (.int .i64 0)
    generalize ((W4.setCell ⟨w.heap.size + 1, 0, none⟩ (.slice (some ⟨W.heap.size, 0, none⟩) 512 512)).setCell ⟨w.heap.size + 1 + 1, 0, none⟩ (.int .i64 0)) = W5 at hW5 hB5 j1 j2 ⊢
    have hK5 := (hW5 D0 (by omega) (by omega)).trans HK4.out
    have hs2 := b2.lt
    have hR5 := (hW5 W.heap.size (by omega) (by omega)).trans Hblk.out
    refine ⟨by simp, .inl ⟨_, _, rfl, run_takeDeferred hK5, ?_⟩⟩
    have hc1 := cell_kept j1.cell (grownBy_putObj' _ D0 (.deferred none)) (fun r e => by cases e; exact ⟨_, hK5, rfl⟩)
    have hc2 := cell_kept j2.cell (grownBy_putObj' _ D0 (.deferred none)) (fun r e => by cases e; exact ⟨_, hK5, rfl⟩)
    refine ⟨.tuple #[.slice (some ⟨W.heap.size, 0, none⟩) 512 512, .int .i64 0], by simp [results, Try.f83, go_sem, hc1, hc2], W.heap.size, 0, rfl, hB1.size, ?_, hB5.trans (belowK_b (w := w) (Nat.le_refl _) W5 D0 _ _ (by omega) hK5 rfl rfl)⟩
    rw [Hall.out]
    intro j v hv
    rw [cell_of_row _ _ _ _ _ _ ((World.putObj_heap_other (by omega)).trans hR5)]
    simpa using hv
  case stop =>
    rintro D0 c pre W hD hpre ⟨⟨rfl, ini, x, Bx, q1, q2, q3, q4, q5, q6, q7⟩, hB1⟩ hK
    have HK := Lib.hid hK; clear hK
    gi_wp2_with fail
    rw [Exit.noGoto_ret]
    refine ⟨by simp, .inl ⟨_, _, rfl, run_takeDeferred HK.out, ?_⟩⟩
    have hc1 := cell_kept q6.cell (grownBy_putObj' _ D0 (.deferred none)) (fun r e => by cases e; exact ⟨_, HK.out, rfl⟩)
    have hc2 := cell_kept q7.cell (grownBy_putObj' _ D0 (.deferred none)) (fun r e => by cases e; exact ⟨_, HK.out, rfl⟩)
    refine ⟨.tuple #[.slice (some ⟨Bx, 1, none⟩) 512 512, .int .i64 0], by simp [results, Try.f83, go_sem, hc1, hc2], Bx, 1, rfl, q4, ?_, hB1.trans (belowK_b (w := w) (Nat.le_refl _) W D0 _ _ (by omega) HK.out rfl rfl)⟩
    have hrd : readD D p = x.2.1.2 := by
      refine readD_at (ini := ini.map (fun x => x.2.1)) ?_ ?_
      · rw [← hrm, ← q3]
        obtain ⟨t, ht⟩ := hpre
        exact ⟨t.map (fun x => x.2.1), by rw [← ht, q1]; simp⟩
      · intro y hy
        obtain ⟨z, hz, rfl⟩ := List.mem_map.1 hy
        exact q2 z hz
    rw [hrd]
    have hne : D0 ≠ Bx := by
      rintro rfl
      rw [HK.out] at q5
      cases q5
    intro j v hv
    rw [cell_of_row _ _ _ _ _ _ ((World.putObj_heap_other (Ne.symm hne)).trans q5)]
    simpa [Wt.cells, Nat.add_comm 1 j] using hv
end
end Go.Proofs.Ytdjndeleafhglaa
namespace Go.Proofs.Ytdjndeleafhglaa
open Go.RowKit

def intsV (l : List Int) : List Value := l.map (Value.int .i64)
theorem intsV_length (l : List Int) : (intsV l).length = l.length := by simp [intsV]

/-- A slice of ints: it reads so. -/
structure IntsAt (w : World) (A : Option Addr) (n : Nat) (l : List Int) : Prop where
  len : l.length = n
  at_ : 0 < n → ∃ g o, A = some ⟨g, o, none⟩ ∧ w.rangeAt g o (intsV l)
theorem IntsAt.keep {w w' : World} {A : Option Addr} {n : Nat} {l : List Int} (h : IntsAt w A n l) (hb : ∀ g o, A = some ⟨g, o, none⟩ → w'.heap[g]? = w.heap[g]?) : IntsAt w' A n l :=
  ⟨h.len, fun hn => by
    obtain ⟨g, o, hA, hr⟩ := h.at_ hn
    exact ⟨g, o, hA, rangeAt_keep hr (hb g o hA)⟩⟩

/-- Is the n-th that is pending kept whole? -/
def wholeB (l : List Int) (i : Nat) : Bool := if h : 0 < l.length then decide (bits .and .i64 (l[i % l.length]'(Nat.mod_lt _ h)) 1 = 1) else false

section
variable {w : World}
set_option maxRecDepth 100000 in
set_option maxHeartbeats 4000000 in
theorem whole_any (i x n c : Nat) (A : Option Addr) (l : List Int) (hx : w.cell? ⟨x, 0, none⟩ = some (.slice A n c)) (hl : IntsAt w A n l) (hsm : n ≤ 1000000) :
    Calls Try.prog 134 #[.int .i64 (i : Int), .pointer (some ⟨x, 0, none⟩)] w fun e w' => e = .returned (.bool (wholeB l i)) ∧ Below w.heap.size w w' := by
  have hcw := @BW.cell
  have hxl : x < w.heap.size := World.block_lt_of_cell? w _ hx
  have hlen := hl.len
  by_cases hn : 0 < n
  · obtain ⟨g, o, rfl, hr⟩ := hl.at_ hn
    have hm : i % n < l.length := by rw [hlen]; exact Nat.mod_lt _ hn
    obtain ⟨v, hv⟩ : ∃ v, l[i % n]? = some v := ⟨_, List.getElem?_eq_getElem hm⟩
    have hc := hr (i % n) (.int .i64 v) (by simp [intsV, hv])
    have hgl : g < w.heap.size := World.block_lt_of_cell? w _ hc
    have hw : wholeB l i = decide (bits .and .i64 v 1 = 1) := by
      unfold wholeB
      rw [dif_pos (by omega)]
      subst hlen
      rw [List.getElem?_eq_getElem hm] at hv
      injection hv with hv
      rw [hv]
    rw [hw]
    have hd : decide (0 < (n : Int)) = true := by simpa using hn
    have hmn : i % n < n := Nat.mod_lt _ hn
    have ht : (i : Int).tmod (n : Int) = ((i % n : Nat) : Int) := by
      rw [Int.tmod_eq_emod_of_nonneg (by omega)]
      omega
    have hn0 : ((n : Int) == 0) = false := by simp; omega
    have hn1 : (n : Int) ≠ 0 := by omega
    have hn2 : ¬ n = 0 := by omega
    generalize i % n = m at hm hv hc ht hmn
    have hmi : (m : Int) < (n : Int) := by omega
    go_enter Try.func134, Try.ntmps134
    go_wp2
    refine wp_region_below (by kernel_rfl) (by kernel_rfl) ?_
    iterate 15 (quiet_step (fail))
    refine wpQuiet_nil ?_
    rintro _ ⟨x, rfl⟩
    go_wp2
    go_ret
    exact ⟨ret_bool rfl, x.then (by ((repeat (first | (with_reducible exact Bnil _) | (with_reducible assumption) | (with_reducible refine Bset ?_ ?_ _) | (with_reducible refine Bnew ?_ _) | (with_reducible refine Bdrew ?_) | (with_reducible refine Bthen ?_ (by assumption)))); all_goals (simp; try omega)))⟩
  · obtain rfl : n = 0 := by omega
    have hw : wholeB l i = false := by unfold wholeB; rw [dif_neg (by omega)]
    rw [hw]
    clear hl hlen hn hw
    go_enter Try.func134, Try.ntmps134
    go_wp2
    refine wp_region_below (by kernel_rfl) (by kernel_rfl) ?_
    iterate 15 (quiet_step (fail))
    refine wpQuiet_nil ?_
    rintro _ ⟨x, rfl⟩
    go_wp2
    go_ret
    exact ⟨ret_bool rfl, x.then (by ((repeat (first | (with_reducible exact Bnil _) | (with_reducible assumption) | (with_reducible refine Bset ?_ ?_ _) | (with_reducible refine Bnew ?_ _) | (with_reducible refine Bdrew ?_) | (with_reducible refine Bthen ?_ (by assumption)))); all_goals (simp; try omega)))⟩

end
end Go.Proofs.Ytdjndeleafhglaa
namespace Go.Proofs.Ytdjndeleafhglaa
open Go.RowKit

/-- One that is pending, when the power comes back. -/
def stepR (ks : List Int) (torn : Int) (m : Nat) (D : DS) (x : Nat × List UInt8) (i : Nat) : DS :=
  if (i : Int) = torn then keepD D x.1 (x.2.take m ++ (D.kept x.1).drop m) else if wholeB ks i = true then keepD D x.1 x.2 else D
def restAll (ks : List Int) (torn : Int) (m : Nat) (D : DS) (l : List (Nat × List UInt8)) : DS := l.zipIdx.foldl (fun D x => stepR ks torn m D x.1 x.2) D
theorem restAll_snoc (ks : List Int) (torn : Int) (m : Nat) (D : DS) (l : List (Nat × List UInt8)) (x : Nat × List UInt8) : restAll ks torn m D (l ++ [x]) = stepR ks torn m (restAll ks torn m D l) x l.length := by
  unfold restAll
  rw [List.zipIdx_append, List.foldl_append]
  simp
theorem stepR_same (ks : List Int) (torn : Int) (m : Nat) (D : DS) (x : Nat × List UInt8) (i : Nat) :
    (stepR ks torn m D x i).n = D.n ∧ (stepR ks torn m D x i).pend = D.pend ∧ (stepR ks torn m D x i).hist.length ≤ D.hist.length + 1 ∧ (stepR ks torn m D x i).fuse = D.fuse ∧ (stepR ks torn m D x i).calls = D.calls ∧ (stepR ks torn m D x i).down = D.down := by
  unfold stepR
  split
  · simp [keepD]
  · split
    · simp [keepD]
    · simp
theorem restFold_same (ks : List Int) (torn : Int) (m : Nat) (l : List ((Nat × List UInt8) × Nat)) : ∀ D : DS,
    (l.foldl (fun D x => stepR ks torn m D x.1 x.2) D).n = D.n ∧ (l.foldl (fun D x => stepR ks torn m D x.1 x.2) D).pend = D.pend ∧ (l.foldl (fun D x => stepR ks torn m D x.1 x.2) D).hist.length ≤ D.hist.length + l.length ∧
      (l.foldl (fun D x => stepR ks torn m D x.1 x.2) D).fuse = D.fuse ∧ (l.foldl (fun D x => stepR ks torn m D x.1 x.2) D).calls = D.calls ∧ (l.foldl (fun D x => stepR ks torn m D x.1 x.2) D).down = D.down := by
  induction l with
  | nil => intro D; simp
  | cons x l ih =>
    intro D
    obtain ⟨h1, h2, h3, h4, h5, h6⟩ := ih (stepR ks torn m D x.1 x.2)
    obtain ⟨g1, g2, g3, g4, g5, g6⟩ := stepR_same ks torn m D x.1 x.2
    simp only [List.foldl_cons, List.length_cons]
    exact ⟨h1.trans g1, h2.trans g2, by omega, h4.trans g4, h5.trans g5, h6.trans g6⟩
theorem restAll_same (ks : List Int) (torn : Int) (m : Nat) (l : List (Nat × List UInt8)) (D : DS) :
    (restAll ks torn m D l).n = D.n ∧ (restAll ks torn m D l).pend = D.pend ∧ (restAll ks torn m D l).hist.length ≤ D.hist.length + l.length ∧ (restAll ks torn m D l).fuse = D.fuse ∧ (restAll ks torn m D l).calls = D.calls ∧ (restAll ks torn m D l).down = D.down := by
  have := restFold_same ks torn m l.zipIdx D
  rw [List.length_zipIdx] at this
  exact this

/-- The power comes back. -/
def restD (D : DS) (ks : List Int) (torn at_ : Int) : DS := { restAll ks torn (at_ % 513).toNat D D.pend with pend := [], down := false, fuse := -1 }

theorem bytesV_take (l : List UInt8) (n : Nat) : bytesV (l.take n) = (bytesV l).take n := by simp [bytesV, List.map_take]
theorem bytesV_drop (l : List UInt8) (n : Nat) : bytesV (l.drop n) = (bytesV l).drop n := by simp [bytesV, List.map_drop]
theorem bytesV_append (l m : List UInt8) : bytesV (l ++ m) = bytesV l ++ bytesV m := by simp [bytesV]

/-- The head of a fresh block is written. -/
theorem setCells_alloc_head (w : World) (t : TypeId) (vs : List Value) (C : List Value) (h : vs.length ≤ C.length) : (w.alloc (.cells C.toArray t)).setCells w.heap.size 0 vs = w.alloc (.cells (vs ++ C.drop vs.length).toArray t) := by
  rw [setCells_alloc_go]
  congr 2
  have key := foldl_set 0 vs 0 C.toArray (by simpa using h)
  simp only [Nat.zero_add, List.take_zero, List.nil_append] at key
  exact Array.ext' key

/-- copy onto the head of a fresh block. -/
theorem wp_copy_new {P : Program} {w : World} {o : Oper} {a : Act} {K : Act → World → Prop} {Q : Exit → Act → World → Prop} (x y : Operand) (dT sT : TypeId)
    (ho : o.op = .call { callee := .builtin .copy, args := #[x, y], argTypes := #[dT, sT] }) (elem : TypeId) (hu : P.underlying dT = some (.slice elem)) (hs : (P.info? elem).map (·.size) = some 1)
    (C cs : List Value) (t : TypeId) (dLen dCap sLen sCap : Nat) (ad : Addr) (hx : a.eval x = .slice (some ⟨w.heap.size, 0, none⟩) dLen dCap) (hy : a.eval y = .slice (some ad) sLen sCap) (hn : cs.length = Nat.min sLen dLen)
    (hle : cs.length ≤ C.length) (hsrc : ∀ j v, cs[j]? = some v → (w.alloc (.cells C.toArray t)).cell? (ad.add j) = some v) (h1 : ∀ v ∈ cs, v.oneCell' = true)
    (h : K (a.put o.dst (goInt cs.length)) (w.alloc (.cells (cs ++ C.drop cs.length).toArray t))) : o.wp P a (w.alloc (.cells C.toArray t)) K Q := by
  have hth := there_of (heap_alloc_new w (.cells C.toArray t)) (o := 0) (n := cs.length) (by simpa using hle)
  have hr := run_copy_cells (P := P) (w.alloc (.cells C.toArray t)) dT sT o.type elem w.heap.size 0 dLen dCap ad sLen sCap cs hu hs hn hsrc (fun j hj => by simpa using (hth j hj).1) (fun j hj => by simp) h1
  rw [setCells_alloc_head w t cs C hle] at hr
  unfold Oper.wp execOp
  simp only [ho, resolve, invoke, builtin, Sem.run_bind, Sem.run_pure, Result.andThen_ok, List.map_toArray, List.map_cons, List.map_nil, hx, hy, hr]
  exact h

theorem IntsAt.keep0 {w w' : World} {A : Option Addr} {n : Nat} {l : List Int} (h : IntsAt w A n l) (hb : 0 < n → ∀ g o, A = some ⟨g, o, none⟩ → w'.heap[g]? = w.heap[g]?) : IntsAt w' A n l :=
  ⟨h.len, fun hn => by
    obtain ⟨g, o, hA, hr⟩ := h.at_ hn
    exact ⟨g, o, hA, rangeAt_keep hr (hb hn g o hA)⟩⟩
theorem size_byte : (Try.prog.info? 5).map (·.size) = some 1 := by kernel_rfl
theorem run_storeCells_drew {P : Program} (w : World) (t : TypeId) (V : List Value) (C : Array Value) (hC : C.size = V.length) (h1 : ∀ v ∈ V, v.oneCell' = true) :
    (storeCells ⟨w.heap.size, 0, none⟩ V).run P (w.alloc (.cells C t)).drew = .ok () (w.alloc (.cells V.toArray t)).drew := run_storeCells_fresh w.drew t V C hC h1

section
variable {w : World} {d : Nat} {D : DS} {S : Nat → Prop} {bk : Nat} {pv av : Value} {H : List (Nat × List UInt8 × Nat)}

theorem Restart_nil (A : Option Addr) (n c : Nat) (torn at_ : Int) (w : World) :
    Calls Try.prog 51 #[.pointer none, .slice A n c, .int .i64 torn, .int .i64 at_] w fun e w' => e = .returned (.tuple #[]) ∧ Below w.heap.size w w' := by
  go_enter Try.func51, Try.ntmps51
  go_wp2_with fail
  refine bodyPost_ret (results_none rfl _ _ _) rfl ?_
  exact ⟨rfl, by ((repeat (first | (with_reducible exact Bnil _) | (with_reducible assumption) | (with_reducible refine Bset ?_ ?_ _) | (with_reducible refine Bnew ?_ _) | (with_reducible refine Bdrew ?_) | (with_reducible refine Bthen ?_ (by assumption)))); all_goals (simp; try omega))⟩

set_option maxRecDepth 100000 in
set_option maxHeartbeats 4000000 in
theorem Restart_any (A : Option Addr) (n c : Nat) (torn at_ : Int) (ks : List Int) (h : DiskP w d D S bk pv av H) (hks : IntsAt w A n ks) (hkS : 0 < n → ∀ g o, A = some ⟨g, o, none⟩ → ¬ S g ∧ g < w.heap.size) (hkb : n ≤ 1000000)
    (hsm : 2 * D.pend.length + D.hist.length ≤ 1000000) :
    Calls Try.prog 51 #[.pointer (some ⟨d, 0, none⟩), .slice A n c, .int .i64 torn, .int .i64 at_] w fun e w' => e = .returned (.tuple #[]) ∧
      ∃ S' pv' av' H', DiskP w' d (restD D ks torn at_) S' bk pv' av' H' ∧ Frame S w w' ∧ ∀ k, S' k → S k ∨ w.heap.size ≤ k := by
  obtain ⟨c0, c1, c2, c3, c4, c5, hf⟩ := h.cells
  have hdl := blk_lt h.hdr
  obtain ⟨r, hr⟩ : ∃ r, r = at_.tmod 513 := ⟨_, rfl⟩
  have hrb : -513 < r ∧ r < 513 ∧ (r + 513).tmod 513 = at_ % 513 := by
    have h1 := Int.tmod_lt_of_pos at_ (show (0 : Int) < 513 by decide)
    have h2 : -513 < at_.tmod 513 := Int.lt_tmod_of_pos at_ (show (0 : Int) < 513 by decide)
    have h3 := Int.mul_tdiv_add_tmod at_ 513
    rw [← hr] at h1 h2 h3
    refine ⟨h2, h1, ?_⟩
    rw [Int.tmod_eq_emod_of_nonneg (by omega)]
    omega
  obtain ⟨m, hm⟩ : ∃ m : Nat, m = (at_ % 513).toNat := ⟨_, rfl⟩
  have e1 : IntKind.i64.wrap (r + 513) = r + 513 := IntWalk.i64_in _ (by omega)
  have e2 : (r + 513).tmod 513 = (m : Int) := by omega
  have hmb : m ≤ 512 := by omega
  have hr' : at_.tmod 513 = r := hr.symm
  obtain ⟨B, cap, rfl, hB⟩ : ∃ B cap, pv = .slice B D.pend.length cap ∧ (0 < D.pend.length → ∃ g, B = some ⟨g, 0, none⟩) := by
    rcases h.pend.2 with ⟨rfl, h0⟩ | ⟨g, cap, _, rfl, _⟩
    · exact ⟨none, 0, by rw [h0], fun h => by omega⟩
    · exact ⟨_, cap, rfl, fun _ => ⟨g, rfl⟩⟩
  have hmf : ∀ (fn : Fn) (first cap : Array Value) (w : World), (Instr.makeFunc fn first cap).run Try.prog w = .ok (.func fn first cap) w := fun _ _ _ _ => rfl
  have Hh := Lib.hid h; clear h
  have Hks := Lib.hid hks; clear hks
  have HkS := Lib.hid hkS; clear hkS
  have HB := Lib.hid hB; clear hB
  have Hm := Lib.hid hm; clear hm
  clear hr hrb
  go_enter Try.func51, Try.ntmps51
  go_wp2_with fail
  clear hmf hr' e1 e2 c0 c1 c2 c3 c4 c5 hf
  have hS0 : ¬ S w.heap.size := fun hs => by have := Hh.out.ltS _ hs; omega
  have hx0 : (w.alloc (.cells #[.slice A n c] 29)).cell? ⟨w.heap.size, 0, none⟩ = some (.slice A n c) := by
    rw [cell_of_row _ _ _ _ _ _ (heap_alloc_new w _)]; rfl
  have hsz1 : (w.alloc (.cells #[.slice A n c] 29)).heap.size = w.heap.size + 1 := by simp
  have hb1 : Below w.heap.size w (w.alloc (.cells #[.slice A n c] 29)) := Bbox _ _
  have H1 := Lib.hid (Hh.out.below hb1)
  have hf1 : Frame S w (w.alloc (.cells #[.slice A n c] 29)) := Frame.of_below hb1
  have Hx0 := Lib.hid hx0; clear hx0
  generalize (w.alloc (.cells #[.slice A n c] 29)) = w1 at H1 Hx0 hsz1 hb1 hf1 ⊢
  go_loopw [25] (fun i wr => ∃ k : Nat, k ≤ D.pend.length ∧ i = .int .i64 k ∧ ∃ S' av' H', DiskP wr d (restAll ks torn m D (D.pend.take k)) S' bk (.slice B D.pend.length cap) av' H' ∧ Frame S w1 wr ∧ ∀ j, S' j → S j ∨ w1.heap.size ≤ j) (fun i _ => D.pend.length - (intOf i).toNat)
  case atStart => exact ⟨0, by omega, rfl, S, av, H, H1.out, Frame.refl _ _, fun j hj => .inl hj⟩
  case round =>
    obtain ⟨k, hk, rfl, S', av', H', h2, hfr, hSS⟩ := hrel
    obtain ⟨kn, kp, kh, kf, kc, kd⟩ := restAll_same ks torn m (D.pend.take k) D
    by_cases hlt : k < D.pend.length
    · obtain ⟨g, rfl⟩ := HB.out (by omega)
      obtain ⟨⟨q, b⟩, hqb⟩ : ∃ x, D.pend[k]? = some x := ⟨_, List.getElem?_eq_getElem hlt⟩
      have hmem : (q, b) ∈ (restAll ks torn m D (D.pend.take k)).pend := by rw [kp]; exact List.mem_of_getElem? hqb
      obtain ⟨hqn, hbl⟩ := h2.plen _ hmem
      have hown := h2.pend
      rw [kp] at hown
      have hrg := pend_at hown (fun y hy => (h2.plen y (by rw [kp]; exact hy)).2) rfl k (q, b) hqb
      simp only at hrg hqn hbl
      have hlen : (bytesV b).length = 512 := by rw [bytesV_length, hbl]
      have hszU : (Try.prog.info? 177).map (·.size) = some (.int .i64 (q : Int) :: bytesV b : List Value).length := by
        obtain ⟨i1, hi1, _, hi1s, _⟩ := info_wait2
        rw [hi1, List.length_cons, hlen]; simp [hi1s]
      have honeU : ∀ v ∈ (.int .i64 (q : Int) :: bytesV b : List Value), v.oneCell' = true := List.forall_mem_cons.2 ⟨rfl, bytesV_one b⟩
      have hszV : (Try.prog.info? 175).map (·.size) = some (bytesV b).length := by rw [hlen]; exact size_block
      obtain ⟨U, hU⟩ : ∃ U : List Value, U = .int .i64 (q : Int) :: bytesV b := ⟨_, rfl⟩
      have hUl : U.length = 513 := by rw [hU, List.length_cons, hlen]
      rw [← hU] at hrg hszU honeU
      have hkn : (k : Int) < (D.pend.length : Int) := by omega
      have hD5 : stepR ks torn m (restAll ks torn m D (D.pend.take k)) (q, b) k = restAll ks torn m D (D.pend.take (k + 1)) := by
        rw [List.take_add_one, hqb, Option.toList_some, restAll_snoc, List.length_take, Nat.min_eq_left hk]
      have hcellq : (wr.alloc (.cells U.toArray 177)).cell? ⟨wr.heap.size, 0, none⟩ = some (.int .i64 (q : Int)) := by
        rw [cell_of_row _ _ _ _ _ _ (heap_alloc_new wr _), hU]; simp
      have hrg2 : (wr.alloc (.cells U.toArray 177)).rangeAt wr.heap.size 1 (bytesV b) := fun j v hv => by
        rw [cell_of_row _ _ _ _ _ _ (heap_alloc_new wr _), hU]
        simpa [Nat.add_comm 1 j] using hv
      have h3 := h2.below (Bbox wr (.cells U.toArray 177))
      have hfr3 := hfr.alloc (.cells U.toArray 177)
      have hsz4 : wr.heap.size < (wr.alloc (.cells U.toArray 177)).heap.size := by simp
      have hzr := hfr.size
      have hsm5 : (restAll ks torn m D (D.pend.take k)).pend.length + (restAll ks torn m D (D.pend.take k)).hist.length + 1 ≤ 1000000 := by
        rw [kp]; rw [List.length_take] at kh; omega
      have HD5 := Lib.hid hD5; clear hD5
      have Hqb := Lib.hid hqb; clear hqb
      have HUl := Lib.hid hUl; clear hUl
      have Hrg := Lib.hid hrg; clear hrg
      have HszU := Lib.hid hszU; clear hszU
      have HszV := Lib.hid hszV; clear hszV
      have HoneU := Lib.hid honeU; clear honeU
      have HU := Lib.hid hU; clear hU
      have Hlen := Lib.hid hlen; clear hlen
      have Hbl := Lib.hid hbl; clear hbl
      have Hrg2 := Lib.hid hrg2; clear hrg2
      have H3 := Lib.hid h3; clear h3 h2 hown hmem
      have hrel5 : ∀ (w5 : World) (S5 : Nat → Prop) (av5 : Value) (H5 : List (Nat × List UInt8 × Nat)) (D5 : DS), D5 = restAll ks torn m D (D.pend.take (k + 1)) → DiskP w5 d D5 S5 bk (.slice (some ⟨g, 0, none⟩) D.pend.length cap) av5 H5 → Frame S' (wr.alloc (.cells U.toArray 177)) w5 → (∀ j, S5 j → S' j ∨ (wr.alloc (.cells U.toArray 177)).heap.size ≤ j) →
          ∃ S' av' H', DiskP w5 d (restAll ks torn m D (D.pend.take (k + 1))) S' bk (.slice (some ⟨g, 0, none⟩) D.pend.length cap) av' H' ∧ Frame S w1 w5 ∧ ∀ j, S' j → S j ∨ w1.heap.size ≤ j := fun w5 S5 av5 H5 D5 hD h5 hf5 hS5 => by
        subst hD
        exact ⟨S5, av5, H5, h5, hfr3.trans hf5 hSS, fun j hj => by
          rcases hS5 j hj with hj | hj
          · exact hSS j hj
          · exact .inr (by omega)⟩
      have Hrel5 := Lib.hid hrel5; clear hrel5
      go_wp2_with fail
      refine wp_load_mid 177 _ rfl g (k * 513) rfl U _ Hrg.out Try.underlying177 rfl HszU.out ?_
      go_wp2_with fail
      rw [run_storeCells_fresh wr _ U _ (by rw [HUl.out]; exact zero_wait_size) HoneU.out]
      have hS'x : ¬ S' w.heap.size := fun hs => by
        rcases hSS _ hs with h1 | h1
        · exact hS0 h1
        · omega
      have hcx : (wr.alloc (.cells U.toArray 177)).cell? ⟨w.heap.size, 0, none⟩ = some (.slice A n c) :=
        (World.cell?_of_block (hfr3.block w.heap.size (by omega) hS0)).trans Hx0.out
      have hks3 : IntsAt (wr.alloc (.cells U.toArray 177)) A n ks := (Hks.out.keep0 (w' := w1) fun hn g o hA => hb1.block g (HkS.out hn g o hA).2).keep0 fun hn g o hA => hfr3.block g (by have := (HkS.out hn g o hA).2; omega) (HkS.out hn g o hA).1
      have Hks3 := Lib.hid hks3; clear hks3
      obtain ⟨wr2, hwr2⟩ : ∃ wr2, wr2 = wr.alloc (.cells U.toArray 177) := ⟨_, rfl⟩
      rw [← hwr2] at hcellq Hrg2 hfr3 H3 hsz4 Hrel5 hcx Hks3 ⊢
      clear hwr2
      obtain ⟨c0, c1, c2, c3, c4, c5, hf⟩ := H3.out.cells
      clear c1 c2 c3 c4 c5 hf
      by_cases ht : (k : Int) = torn
      · have ht1 : ((k : Int) == torn) = true := by simpa using ht
        have ht2 : decide ((k : Int) = torn) = true := by simpa using ht
        have Ht := Lib.hid ht; clear ht
        go_wp2_with fail
        have hklen := H3.out.klen q hqn
        have hKl : (bytesV ((restAll ks torn m D (D.pend.take k)).kept q)).length = 512 := by rw [bytesV_length, hklen]
        have hKr := H3.out.kept q hqn
        have hK1 := bytesV_one ((restAll ks torn m D (D.pend.take k)).kept q)
        have hszK : (Try.prog.info? 175).map (·.size) = some (bytesV ((restAll ks torn m D (D.pend.take k)).kept q)).length := by rw [hKl]; exact size_block
        obtain ⟨K0, hK0⟩ : ∃ K0, K0 = bytesV ((restAll ks torn m D (D.pend.take k)).kept q) := ⟨_, rfl⟩
        rw [← hK0] at hKl hKr hK1 hszK
        have HK0 := Lib.hid hK0; clear hK0
        have HKl := Lib.hid hKl; clear hKl
        have HK1 := Lib.hid hK1; clear hK1
        have HszK := Lib.hid hszK; clear hszK
        have Hklen := Lib.hid hklen; clear hklen
        have hqlt : (q : Int) < (D.n : Int) := by rw [kn] at hqn; omega
        rw [kn] at c0
        refine wp_region_in (fun w' => w'.cell? ⟨d, 0, none⟩ = some (.slice (some ⟨bk, 0, none⟩) D.n D.n) ∧ w'.cell? ⟨wr.heap.size, 0, none⟩ = some (.int .i64 (q : Int)) ∧ w'.rangeAt bk (q * 512) K0) [(0, true), (1, true), (2, true), (3, true), (4, true), (5, true), (6, true), (7, true), (8, false), (9, false)] (by kernel_rfl) (by kernel_rfl) (fun _ _ _ _ _ h => h) ⟨c0, hcellq, hKr⟩ (fun hne => ?_)
        have hs0 : ∀ x : InS (fun w' => w'.cell? ⟨d, 0, none⟩ = some (.slice (some ⟨bk, 0, none⟩) D.n D.n) ∧ w'.cell? ⟨wr.heap.size, 0, none⟩ = some (.int .i64 (q : Int)) ∧ w'.rangeAt bk (q * 512) K0), x.w.cell? ⟨d, 0, none⟩ = some (.slice (some ⟨bk, 0, none⟩) D.n D.n) := fun x => x.h.1
        have hs1 : ∀ x : InS (fun w' => w'.cell? ⟨d, 0, none⟩ = some (.slice (some ⟨bk, 0, none⟩) D.n D.n) ∧ w'.cell? ⟨wr.heap.size, 0, none⟩ = some (.int .i64 (q : Int)) ∧ w'.rangeAt bk (q * 512) K0), x.w.cell? ⟨wr.heap.size, 0, none⟩ = some (.int .i64 (q : Int)) := fun x => x.h.2.1
        simp only [permOps, List.map_cons, List.map_nil, List.getD_cons_zero, List.getD_cons_succ]
        (iterate 7 ((with_reducible refine wpPerm_F ?_); intro K hK; go_simp; refine hK _ _ ?_; clear hK K))
        refine wpPerm_F1 rfl _ (okVal_load 175 _ rfl bk (q * 512) rfl K0 _ (fun w' ⟨x, hx⟩ => by rw [hx]; exact x.h.2.2) Try.underlying175 rfl HszK.out) ?_
        (with_reducible refine wpPerm_E rfl ?_); intro K hK
        go_wp2_with fail
        have hb2A : Below wr2.heap.size wr2 (wr2.alloc (.cells Try.zeroCells175 175)).drew := (Bbox _ _).drew
        refine ⟨⟨⟨_, (hb2A.cell (p := ⟨d, 0, none⟩) (blk_lt H3.out.hdr)).trans c0, (hb2A.cell (p := ⟨wr.heap.size, 0, none⟩) hsz4).trans hcellq, rangeAt_keep hKr (hb2A.block bk (H3.out.ltS bk H3.out.ownS.2.1))⟩, rfl⟩, ?_⟩
        (with_reducible refine wpPerm_L rfl ?_); intro K hK
        go_simp
        rw [run_storeCells_drew wr2 _ K0 _ (by rw [HKl.out]; exact zero_block_size) HK1.out]
        clear hs0 hs1 hne hb2A
        have hmI : (m : Int) ≤ 512 := by omega
        go_wp2_with fail
        refine wp_region_in (fun _ => True) [(0, true), (1, true), (2, true), (3, true), (4, false)] (by kernel_rfl) (by kernel_rfl) (fun _ _ _ _ _ h => h) trivial (fun hne => ?_)
        simp only [permOps, List.map_cons, List.map_nil, List.getD_cons_zero, List.getD_cons_succ]
        (iterate 4 ((with_reducible refine wpPerm_F ?_); intro K hK; go_simp; refine hK _ _ ?_; clear hK K))
        (with_reducible refine wpPerm_L rfl ?_); intro K hK
        have hcsl : ((bytesV b).take m).length = m := by rw [List.length_take, Hlen.out]; omega
        refine wp_copy_new (w := wr2.drew.drew) _ _ 41 41 rfl 5 Try.underlying41 ?c1 K0 ((bytesV b).take m) 175 m 512 512 512 ⟨wr.heap.size, 1, none⟩ ?c2 ?c3 ?c4 ?c5 ?c6 ?c7 ?_
        case c1 => exact size_byte
        case c2 => rfl
        case c3 => rfl
        case c4 => rw [hcsl]; exact (Nat.min_eq_right hmb).symm
        case c5 => rw [hcsl, HKl.out]; exact hmb
        case c6 =>
          intro j v hv
          rw [Addr.add_mid]
          have hv2 : (bytesV b)[j]? = some v := by
            rw [List.getElem?_take] at hv
            split at hv
            · exact hv
            · simp at hv
          exact (World.cell?_of_block (w := wr2) (Below.heap_alloc _ _ _ hsz4)).trans (Hrg2.out j v hv2)
        case c7 => exact fun v hv => bytesV_one b v (List.mem_of_mem_take hv)
        obtain ⟨bt, hbt⟩ : ∃ bt, bt = b.take m ++ ((restAll ks torn m D (D.pend.take k)).kept q).drop m := ⟨_, rfl⟩
        have hbtl : bt.length = 512 := by rw [hbt, List.length_append, List.length_take, List.length_drop, Hbl.out, Hklen.out]; omega
        have hX : (bytesV b).take m ++ K0.drop ((bytesV b).take m).length = bytesV bt := by rw [hcsl, HK0.out, hbt, bytesV_append, bytesV_take, bytesV_drop]
        rw [hX]
        have hb4 : Below wr2.heap.size wr2 (wr2.drew.drew.alloc (.cells (bytesV bt).toArray 175)) := Bnew (Bdrew (Bdrew (Bnil wr2))) _
        have hnew4 : (wr2.drew.drew.alloc (.cells (bytesV bt).toArray 175)).rangeAt wr2.heap.size 0 (bytesV bt) := fun j v hv => by
          have := cell_of_row (wr2.drew.drew.alloc (.cells (bytesV bt).toArray 175)) wr2.heap.size (0 + j) _ _ _ (heap_alloc_new wr2.drew.drew _)
          rw [this]; simpa using hv
        have hst : stepR ks torn m (restAll ks torn m D (D.pend.take k)) (q, b) k = keepD (restAll ks torn m D (D.pend.take k)) q bt := by
          unfold stepR; rw [if_pos Ht.out, hbt]
        have hszT : (Try.prog.info? 175).map (·.size) = some (bytesV bt).length := by rw [bytesV_length, hbtl]; exact size_block
        generalize (wr2.drew.drew.alloc (.cells (bytesV bt).toArray 175)) = w4 at hb4 hnew4 ⊢
        have hcellq4 := (hb4.cell (p := ⟨wr.heap.size, 0, none⟩) hsz4).trans hcellq
        have h4 := H3.out.below hb4
        have hfr4 : Frame S' wr2 w4 := Frame.of_below hb4
        have hz4 := hb4.size
        have hk3 := keep_any q bt h4 hqn hbtl hsm5
        have Hk3 := Lib.hid hk3; clear hk3
        have Hst := Lib.hid hst; clear hst
        have H4 := Lib.hid h4; clear h4
        have Hnew4 := Lib.hid hnew4; clear hnew4
        have HszT := Lib.hid hszT; clear hszT
        clear hX hbt hbtl hcsl hb4 c0 hcellq hcx hne
        (refine hK _ _ ?_; clear hK K)
        go_wp2_with fail
        refine wp_load_mid 175 _ rfl wr2.heap.size 0 rfl (bytesV bt) _ Hnew4.out Try.underlying175 rfl HszT.out ?_
        go_wp2_with fail
        refine Hk3.out.mono ?_
        rintro e w5 ⟨rfl, S5, av5, H5, h5, hf5, hS5⟩
        have hrel6 := Hrel5.out w5 S5 av5 H5 _ (Hst.out.symm.trans HD5.out) h5 (hfr4.trans hf5 (fun j hj => .inl hj)) (fun j hj => by
          rcases hS5 j hj with hj | hj
          · exact .inl hj
          · exact .inr (by omega))
        clear h5 hf5 hS5 hfr4
        go_wp2_with fail
        go_roundw
        case rel => exact ⟨k + 1, by omega, by go_num, hrel6⟩
        case measure => simp [intOf]; omega
      · have ht1 : ((k : Int) == torn) = false := by simpa using ht
        have ht2 : decide ((k : Int) = torn) = false := by simpa using ht
        go_wp2_with fail
        refine (whole_any k w.heap.size n c A ks hcx Hks3.out hkb).mono ?_
        rintro e w4 ⟨rfl, hb4⟩
        have hcellq4 := (hb4.cell (p := ⟨wr.heap.size, 0, none⟩) hsz4).trans hcellq
        have hrg4 : w4.rangeAt wr.heap.size 1 (bytesV b) := rangeAt_keep Hrg2.out (hb4.block _ hsz4)
        have h4 := H3.out.below hb4
        have hfr4 : Frame S' wr2 w4 := Frame.of_below hb4
        have hz4 := hb4.size
        have Hrg4 := Lib.hid hrg4; clear hrg4
        have hst : stepR ks torn m (restAll ks torn m D (D.pend.take k)) (q, b) k = if wholeB ks k = true then keepD (restAll ks torn m D (D.pend.take k)) q b else restAll ks torn m D (D.pend.take k) := by
          unfold stepR; rw [if_neg ht]
        clear c0 hcellq hcx hb4
        by_cases hw : wholeB ks k = true
        · rw [if_pos hw] at hst
          have hk3 := keep_any q b h4 hqn Hbl.out hsm5
          have Hk3 := Lib.hid hk3; clear hk3
          have Hst := Lib.hid hst; clear hst
          have H4 := Lib.hid h4; clear h4
          go_wp2_with fail
          refine wp_load_mid 175 _ rfl wr.heap.size 1 rfl (bytesV b) _ Hrg4.out Try.underlying175 rfl HszV.out ?_
          go_wp2_with fail
          refine Hk3.out.mono ?_
          rintro e w5 ⟨rfl, S5, av5, H5, h5, hf5, hS5⟩
          have hrel6 := Hrel5.out w5 S5 av5 H5 _ (Hst.out.symm.trans HD5.out) h5 (hfr4.trans hf5 (fun j hj => .inl hj)) (fun j hj => by
            rcases hS5 j hj with hj | hj
            · exact .inl hj
            · exact .inr (by omega))
          clear h5 hf5 hS5 hfr4
          go_wp2_with fail
          go_roundw
          case rel => exact ⟨k + 1, by omega, by go_num, hrel6⟩
          case measure => simp [intOf]; omega
        · have hwf : wholeB ks k = false := by simpa using hw
          rw [if_neg hw] at hst
          have hrel6 := Hrel5.out w4 S' av' H' _ (hst.symm.trans HD5.out) h4 hfr4 (fun j hj => .inl hj)
          clear hst h4 hfr4
          go_wp2_with fail
          go_roundw
          case rel => exact ⟨k + 1, by omega, by go_num, hrel6⟩
          case measure => simp [intOf]; omega
    · have hkl : D.pend.take k = D.pend := List.take_of_length_le (by omega)
      rw [hkl] at h2
      have hkn : ¬ (k : Int) < (D.pend.length : Int) := by omega
      obtain ⟨c0, c1, c2, c3, c4, c5, hf⟩ := h2.cells
      have H2 := Lib.hid h2; clear h2
      clear c0 c2 c4
      go_wp2_with fail
      go_end0
      have hw2 := H2.out.wiped
      have h5 : DiskP (((wr.setCell ⟨d, 1, none⟩ (.slice none 0 0)).setCell ⟨d, 5, none⟩ (.bool false)).setCell ⟨d, 3, none⟩ (.int .i64 (-1))) d (restD D ks torn at_) S' bk (.slice none 0 0) av' H' := by
        unfold restD
        rw [← Hm.out]
        refine hw2.turn rfl rfl rfl rfl ⟨hw2.small.2.2.1, show (-1 : Int) ≤ -1 by decide, show (-1 : Int) ≤ 9223372036854775807 by decide⟩ (blk_set (blk_set hw2.hdr 5 _) 3 _) (fun k hk => ?_) (by simp only [size_set])
        rw [Below.heap_setCell _ _ _ _ (by simpa using hk), Below.heap_setCell _ _ _ _ (by simpa using hk)]
      refine ⟨rfl, S', ⟨_, av', H', h5⟩, ?_, fun j hj => ?_⟩
      · exact hf1.trans (((hfr.setCell (hSS d H2.out.ownS.1) _).setCell (hSS d H2.out.ownS.1) _).setCell (hSS d H2.out.ownS.1) _) (fun j hj => .inl hj)
      · rcases hSS j hj with hj | hj
        · exact .inl hj
        · exact .inr (by omega)

end
end Go.Proofs.Ytdjndeleafhglaa
namespace Go.Proofs.Ytdjndeleafhglaa
open Go.RowKit

/-- The last written at a place, or else z. -/
def lastW (z : List UInt8) (l : List (Nat × List UInt8)) (p : Int) : List UInt8 := l.foldl (fun a x => if (x.1 : Int) = p then x.2 else a) z
theorem lastW_snoc (z : List UInt8) (l : List (Nat × List UInt8)) (x : Nat × List UInt8) (p : Int) : lastW z (l ++ [x]) p = if (x.1 : Int) = p then x.2 else lastW z l p := by
  unfold lastW
  rw [List.foldl_append]
  rfl
theorem lastW_find (z : List UInt8) (p : Nat) (l : List (Nat × List UInt8)) : lastW z l (p : Int) = ((l.reverse.find? fun x => x.1 == p).map (·.2)).getD z := by
  have key : ∀ (m : List (Nat × List UInt8)), lastW z m.reverse (p : Int) = ((m.find? fun x => x.1 == p).map (·.2)).getD z := by
    intro m
    induction m with
    | nil => rfl
    | cons x m ih =>
      rw [List.reverse_cons, lastW_snoc, List.find?_cons]
      by_cases hx : x.1 = p
      · rw [if_pos (by omega)]
        simp [hx]
      · rw [if_neg (by omega), ih]
        have : (x.1 == p) = false := by simpa using hx
        rw [this]
  rw [← key l.reverse, List.reverse_reverse]
theorem readD_last (D : DS) (p : Nat) : readD D p = lastW (D.kept p) D.pend (p : Int) := by rw [lastW_find]; rfl

/-- What is kept is what was last written, or nothing yet. -/
def KeptOk (D : DS) : Prop := ∀ p, p < D.n → D.kept p = lastW zeros D.hist (p : Int)
theorem KeptOk.new (n : Nat) : KeptOk (newD n) := fun _ _ => rfl
theorem KeptOk.keep {D : DS} (h : KeptOk D) (p : Nat) (b : List UInt8) : KeptOk (keepD D p b) := fun q hq => by
  simp only [keepD]
  rw [lastW_snoc]
  by_cases hp : q = p
  · rw [if_pos hp, if_pos (by simp only; omega)]
  · rw [if_neg hp, if_neg (by simp only; omega)]
    exact h q hq
theorem KeptOk.same {D D' : DS} (h : KeptOk D) (hn : D'.n = D.n) (hk : D'.kept = D.kept) (hh : D'.hist = D.hist) : KeptOk D' := fun q hq => by
  rw [hk, hh]
  exact h q (by rw [← hn]; exact hq)

/-- What reading tells. -/
def readX (D : DS) (p : Int) : List UInt8 × Int := if D.down = true then ([], 12) else if p < 0 ∨ (D.n : Int) ≤ p then ([], 2) else (readD D p.toNat, 0)

/-- What putting tells, and the disk behind it. -/
def putD (D : DS) (p : Int) (b : List UInt8) : Int × DS := if p < 0 ∨ (D.n : Int) ≤ p then (2, D) else if b.length ≠ 512 then (4, D) else (0, keepD D p.toNat b)

theorem stepR_kept {D : DS} (ks : List Int) (torn : Int) (m : Nat) (x : Nat × List UInt8) (i : Nat) (h : KeptOk D) : KeptOk (stepR ks torn m D x i) := by
  unfold stepR
  split
  · exact h.keep _ _
  · split
    · exact h.keep _ _
    · exact h
theorem stepR_klen {D : DS} (ks : List Int) (torn : Int) (m : Nat) (x : Nat × List UInt8) (i : Nat) (hm : m ≤ 512) (hx : x.1 < D.n ∧ x.2.length = 512) (h : ∀ p, p < D.n → (D.kept p).length = 512) : ∀ p, p < D.n → ((stepR ks torn m D x i).kept p).length = 512 := by
  intro p hp
  unfold stepR
  have key : ∀ b : List UInt8, b.length = 512 → ((keepD D x.1 b).kept p).length = 512 := fun b hb => by
    simp only [keepD]
    split
    · exact hb
    · exact h p hp
  split
  · refine key _ ?_
    rw [List.length_append, List.length_take, List.length_drop, hx.2, h x.1 hx.1]
    omega
  · split
    · exact key _ hx.2
    · exact h p hp

/-- The disk has turned to D'; of what lay there nothing but its own has. -/
def Turn (S : Nat → Prop) (d : Nat) (D' : DS) (w w' : World) : Prop := ∃ S', DiskAt w' d D' S' ∧ Frame S w w' ∧ ∀ k, S' k → S k ∨ w.heap.size ≤ k

section
variable {w : World} {d : Nat} {D : DS} {S : Nat → Prop}

theorem Turn.still (h : DiskAt w d D S) : Turn S d D w w := ⟨S, h, Frame.refl _ _, fun _ h => .inl h⟩
theorem DiskAt.small (h : DiskAt w d D S) : D.n ≤ 1024 ∧ D.pend.length + D.hist.length ≤ 1000000 ∧ D.calls ≤ 1000000000 ∧ -1 ≤ D.fuse ∧ D.fuse ≤ 9223372036854775807 := by
  obtain ⟨bk, pv, av, H, hp⟩ := h
  exact hp.small
theorem DiskAt.plen (h : DiskAt w d D S) : ∀ p ∈ D.pend, p.1 < D.n ∧ p.2.length = 512 := by
  obtain ⟨bk, pv, av, H, hp⟩ := h
  exact hp.plen
theorem DiskAt.klen (h : DiskAt w d D S) : ∀ p, p < D.n → (D.kept p).length = 512 := by
  obtain ⟨bk, pv, av, H, hp⟩ := h
  exact hp.klen
theorem DiskAt.ltS (h : DiskAt w d D S) : ∀ k, S k → k < w.heap.size := by
  obtain ⟨bk, pv, av, H, hp⟩ := h
  exact hp.ltS

theorem DWrite_any (p : Int) (A : Option Addr) (n c : Nat) (b : List UInt8) (h : DiskAt w d D S) (hb : BytesAt w A n b) (hA : 0 < n → ∀ g o, A = some ⟨g, o, none⟩ → ¬ S g) (hsm : D.pend.length + D.hist.length + 1 ≤ 1000000) (hc : D.calls + 1 ≤ 1000000000) :
    Calls Try.prog 50 #[.pointer (some ⟨d, 0, none⟩), .int .i64 p, .slice A n c] w fun e w' => e = .returned (.int .i64 (writeD D p b).1) ∧ Turn S d (writeD D p b).2 w w' := by
  obtain ⟨bk, pv, av, H, hp⟩ := h
  unfold writeD
  by_cases hd : D.down = true
  · rw [if_pos hd]
    exact (Write_down p A n c hp hd).mono fun e w' ⟨he, hw⟩ => ⟨he, hw ▸ Turn.still ⟨bk, pv, av, H, hp⟩⟩
  · have hd' : D.down = false := by simpa using hd
    rw [if_neg hd]
    by_cases hr : p < 0 ∨ (D.n : Int) ≤ p
    · rw [if_pos hr]
      exact (Write_range p A n c hp hd' hr).mono fun e w' ⟨he, hw⟩ => ⟨he, hw ▸ Turn.still ⟨bk, pv, av, H, hp⟩⟩
    · rw [if_neg hr]
      by_cases hl : b.length = 512
      · rw [if_neg (by simp [hl])]
        obtain rfl : n = 512 := by rw [← hb.len, hl]
        obtain ⟨g, o, rfl, hg⟩ := hb.at_ (by decide)
        have hpp : ((p.toNat : Nat) : Int) = p := Int.toNat_of_nonneg (by omega)
        have := Write_yes p.toNat g o c b hp hd' (by omega) hl hg (hA (by decide) g o rfl) hsm hc
        rw [hpp] at this
        exact this.mono fun e w' ⟨he, S', pv', h1, h2, h3⟩ => ⟨he, S', ⟨bk, pv', av, H, h1⟩, h2, h3⟩
      · rw [if_pos hl]
        exact (Write_form p A n c hp hd' hr (by rw [← hb.len]; exact hl)).mono fun e w' ⟨he, hw⟩ => ⟨he, hw ▸ Turn.still ⟨bk, pv, av, H, hp⟩⟩

theorem DPut_any (p : Int) (A : Option Addr) (n c : Nat) (b : List UInt8) (h : DiskAt w d D S) (hb : BytesAt w A n b) (hsm : D.pend.length + D.hist.length + 1 ≤ 1000000) :
    Calls Try.prog 48 #[.pointer (some ⟨d, 0, none⟩), .int .i64 p, .slice A n c] w fun e w' => e = .returned (.int .i64 (putD D p b).1) ∧ Turn S d (putD D p b).2 w w' := by
  obtain ⟨bk, pv, av, H, hp⟩ := h
  unfold putD
  by_cases hr : p < 0 ∨ (D.n : Int) ≤ p
  · rw [if_pos hr]
    exact (Put_range p A n c hp hr).mono fun e w' ⟨he, hw⟩ => ⟨he, hw ▸ Turn.still ⟨bk, pv, av, H, hp⟩⟩
  · rw [if_neg hr]
    by_cases hl : b.length = 512
    · rw [if_neg (by simp [hl])]
      obtain rfl : n = 512 := by rw [← hb.len, hl]
      obtain ⟨g, o, rfl, hg⟩ := hb.at_ (by decide)
      have hpp : ((p.toNat : Nat) : Int) = p := Int.toNat_of_nonneg (by omega)
      have := Put_yes p.toNat g o c b hp (by omega) hl hg hsm
      rw [hpp] at this
      exact this.mono fun e w' ⟨he, S', av', H', h1, h2, h3⟩ => ⟨he, S', ⟨bk, pv, av', H', h1⟩, h2, h3⟩
    · rw [if_pos hl]
      exact (Put_form p A n c hp hr (by rw [← hb.len]; exact hl)).mono fun e w' ⟨he, hw⟩ => ⟨he, hw ▸ Turn.still ⟨bk, pv, av, H, hp⟩⟩

theorem DFlush_any (h : DiskAt w d D S) (hsm : 2 * D.pend.length + D.hist.length ≤ 1000000) (hc : D.calls + 1 ≤ 1000000000) :
    Calls Try.prog 81 #[.pointer (some ⟨d, 0, none⟩)] w fun e w' => e = .returned (.int .i64 (flushD D).1) ∧ Turn S d (flushD D).2 w w' := by
  obtain ⟨bk, pv, av, H, hp⟩ := h
  unfold flushD
  by_cases hd : D.down = true
  · rw [if_pos hd]
    exact (Flush_down hp hd).mono fun e w' ⟨he, hw⟩ => ⟨he, hw ▸ Turn.still ⟨bk, pv, av, H, hp⟩⟩
  · have hd' : D.down = false := by simpa using hd
    rw [if_neg hd]
    by_cases hb : (burnD D).1 = 0
    · rw [if_neg (by simp [hb])]
      exact (Flush_yes hp hd' hc hb hsm).mono fun e w' ⟨he, S', pv', av', H', h1, h2, h3⟩ => ⟨he, S', ⟨bk, pv', av', H', h1⟩, h2, h3⟩
    · rw [if_pos hb]
      exact (Flush_burnt hp hd' hc hb).mono fun e w' ⟨he, h1, h2⟩ => ⟨he, S, ⟨bk, pv, av, H, h1⟩, h2, fun _ h => .inl h⟩

theorem DArm_any (f : Int) (h : DiskAt w d D S) (hf1 : f ≤ 9223372036854775807) :
    Calls Try.prog 82 #[.pointer (some ⟨d, 0, none⟩), .int .i64 f] w fun e w' => e = .returned (.tuple #[]) ∧ Turn S d (armD D f) w w' := by
  obtain ⟨bk, pv, av, H, hp⟩ := h
  exact (Arm_any f hp hf1).mono fun e w' ⟨he, h1, h2⟩ => ⟨he, S, ⟨bk, pv, av, H, h1⟩, h2, fun _ h => .inl h⟩

theorem DRestart_any (A : Option Addr) (n c : Nat) (torn at_ : Int) (ks : List Int) (h : DiskAt w d D S) (hks : IntsAt w A n ks) (hkS : 0 < n → ∀ g o, A = some ⟨g, o, none⟩ → ¬ S g ∧ g < w.heap.size) (hkb : n ≤ 1000000)
    (hsm : 2 * D.pend.length + D.hist.length ≤ 1000000) :
    Calls Try.prog 51 #[.pointer (some ⟨d, 0, none⟩), .slice A n c, .int .i64 torn, .int .i64 at_] w fun e w' => e = .returned (.tuple #[]) ∧ Turn S d (restD D ks torn at_) w w' := by
  obtain ⟨bk, pv, av, H, hp⟩ := h
  exact (Restart_any A n c torn at_ ks hp hks hkS hkb hsm).mono fun e w' ⟨he, S', pv', av', H', h1, h2, h3⟩ => ⟨he, S', ⟨bk, pv', av', H', h1⟩, h2, h3⟩

theorem DRead_any (p : Int) (h : DiskAt w d D S) :
    Calls Try.prog 83 #[.pointer (some ⟨d, 0, none⟩), .int .i64 p] w fun e w' => ∃ A c, e = .returned (.tuple #[.slice A (readX D p).1.length c, .int .i64 (readX D p).2]) ∧ BytesAt w' A (readX D p).1.length (readX D p).1 ∧ (readX D p).1.length ≤ c ∧ (readX D p).1.length ≤ 512 ∧ Below w.heap.size w w' := by
  have hk := h.klen
  have hpl := h.plen
  obtain ⟨bk, pv, av, H, hp⟩ := h
  unfold readX
  by_cases hd : D.down = true
  · rw [if_pos hd]
    exact (Read_down p hp hd).mono fun e w' ⟨he, hb⟩ => ⟨none, 0, he, BytesAt.nil _, Nat.le_refl _, Nat.zero_le _, hb⟩
  · have hd' : D.down = false := by simpa using hd
    rw [if_neg hd]
    by_cases hr : p < 0 ∨ (D.n : Int) ≤ p
    · rw [if_pos hr]
      exact (Read_range p hp hd' hr).mono fun e w' ⟨he, hb⟩ => ⟨none, 0, he, BytesAt.nil _, Nat.le_refl _, Nat.zero_le _, hb⟩
    · rw [if_neg hr]
      have hpp : ((p.toNat : Nat) : Int) = p := Int.toNat_of_nonneg (by omega)
      have hl : (readD D p.toNat).length = 512 := by
        unfold readD
        cases hf : D.pend.reverse.find? (fun x => x.1 == p.toNat) with
        | none => exact hk _ (by omega)
        | some x => exact (hpl x (List.mem_reverse.1 (List.mem_of_find?_eq_some hf))).2
      have := Read_yes p.toNat hp hd' (by omega)
      rw [hpp] at this
      simp only [hl]
      exact this.mono fun e w' ⟨g, o, he, _, hg, hb⟩ => ⟨some ⟨g, o, none⟩, 512, he, ⟨hl, fun _ => ⟨g, o, rfl, hg⟩⟩, Nat.le_refl _, Nat.le_refl _, hb⟩

end
/-- No more than m. -/
structure Few (D : DS) (m : Nat) : Prop where
  rows : D.pend.length + D.hist.length ≤ m
  calls : D.calls ≤ m
  lo : -1 ≤ D.fuse
  hi : D.fuse ≤ 9223372036854775807
  plen : ∀ x ∈ D.pend, x.1 < D.n ∧ x.2.length = 512
  klen : ∀ p, p < D.n → (D.kept p).length = 512
  kept : KeptOk D

theorem Few.new (n : Nat) : Few (newD n) 0 := ⟨by simp [newD], by simp [newD], by simp [newD], by simp [newD], fun x hx => by simp [newD] at hx, fun p _ => zeros_len, KeptOk.new n⟩
theorem Few.mono {D : DS} {m m' : Nat} (h : Few D m) (hm : m ≤ m') : Few D m' := ⟨by have := h.rows; omega, by have := h.calls; omega, h.lo, h.hi, h.plen, h.klen, h.kept⟩

theorem burn_keeps (D : DS) : (burnD D).2.n = D.n ∧ (burnD D).2.kept = D.kept ∧ (burnD D).2.pend = D.pend ∧ (burnD D).2.hist = D.hist ∧ (burnD D).2.calls = D.calls + 1 := by
  unfold burnD
  split
  · exact ⟨rfl, rfl, rfl, rfl, rfl⟩
  · split <;> exact ⟨rfl, rfl, rfl, rfl, rfl⟩
theorem Few.burn {D : DS} {m : Nat} (h : Few D m) : Few (burnD D).2 (m + 1) := by
  obtain ⟨h1, h2, h3, h4, h5⟩ := burn_keeps D
  refine ⟨by rw [h3, h4]; have := h.rows; omega, by rw [h5]; have := h.calls; omega, ?_, ?_, by rw [h1, h3]; exact h.plen, by rw [h1, h2]; exact h.klen, h.kept.same h1 h2 h4⟩
  all_goals
    have := h.lo
    have := h.hi
    unfold burnD
    split
    · exact (by assumption)
    · split <;> simp only <;> omega
theorem Few.keep {D : DS} {m : Nat} (h : Few D m) (p : Nat) (b : List UInt8) (hb : b.length = 512) : Few (keepD D p b) (m + 1) := by
  refine ⟨by simp only [keepD, List.length_append, List.length_singleton]; have := h.rows; omega, by have := h.calls; simp only [keepD]; omega, h.lo, h.hi, h.plen, fun q hq => ?_, h.kept.keep p b⟩
  simp only [keepD]
  split
  · exact hb
  · exact h.klen q hq

theorem Few.write {D : DS} {m : Nat} (h : Few D m) (p : Int) (b : List UInt8) : Few (writeD D p b).2 (m + 1) := by
  unfold writeD
  split
  · exact h.mono (by omega)
  · split
    · exact h.mono (by omega)
    · split
      · exact h.mono (by omega)
      · rename_i h1 h2 h3
        have hp : Few { D with pend := D.pend ++ [(p.toNat, b)] } (m + 1) := ⟨by simp only [List.length_append, List.length_singleton]; have := h.rows; omega, by have := h.calls; simp only; omega, h.lo, h.hi, fun x hx => by
          rcases List.mem_append.1 hx with hx | hx
          · exact h.plen x hx
          · obtain rfl := List.mem_singleton.1 hx
            exact ⟨by simp only; omega, by simpa using h3⟩, h.klen, h.kept⟩
        obtain ⟨h1, h2, h3, h4, h5⟩ := burn_keeps { D with pend := D.pend ++ [(p.toNat, b)] }
        have hq := hp.burn
        exact ⟨by rw [h3, h4]; exact hp.rows, by rw [h5]; have := h.calls; simp only; omega, hq.lo, hq.hi, hq.plen, hq.klen, hq.kept⟩
theorem Few.put {D : DS} {m : Nat} (h : Few D m) (p : Int) (b : List UInt8) : Few (putD D p b).2 (m + 1) := by
  unfold putD
  split
  · exact h.mono (by omega)
  · split
    · exact h.mono (by omega)
    · rename_i h3
      exact h.keep _ _ (by simpa using h3)

theorem keepAll_kept (l : List (Nat × List UInt8)) : ∀ D : DS, KeptOk D → KeptOk (keepAll D l) := by
  induction l with
  | nil => intro D h; exact h
  | cons x l ih => intro D h; exact ih _ (h.keep _ _)
theorem keepAll_klen (l : List (Nat × List UInt8)) : ∀ D : DS, (∀ p, p < D.n → (D.kept p).length = 512) → (∀ x ∈ l, x.2.length = 512) → ∀ p, p < D.n → ((keepAll D l).kept p).length = 512 := by
  induction l with
  | nil => intro D h _; exact h
  | cons x l ih =>
    intro D h hl
    refine ih (keepD D x.1 x.2) (fun p hp => ?_) (fun y hy => hl y (List.mem_cons_of_mem _ hy))
    simp only [keepD]
    split
    · exact hl x List.mem_cons_self
    · exact h p hp
theorem Few.flush {D : DS} {m : Nat} (h : Few D m) : Few (flushD D).2 (m + 1) := by
  unfold flushD
  split
  · exact h.mono (by omega)
  · split
    · exact h.burn
    · have hb := h.burn
      obtain ⟨h1, h2, h3, h4, h5⟩ := burn_keeps D
      obtain ⟨a1, a2, a3, a4, a5, a6⟩ := keepAll_same D.pend (burnD D).2
      have hr := h.rows
      refine ⟨?_, ?_, ?_, ?_, fun x hx => by simp [wipeD] at hx, ?_, ?_⟩
      · simp only [wipeD, List.length_nil]
        rw [a3, h4, List.length_append]
        omega
      · simp only [wipeD]
        rw [a5]
        exact hb.calls
      · simp only [wipeD]
        rw [a4]
        exact hb.lo
      · simp only [wipeD]
        rw [a4]
        exact hb.hi
      · intro p hp
        simp only [wipeD] at hp ⊢
        rw [a1] at hp
        exact keepAll_klen _ _ hb.klen (fun x hx => (h.plen x hx).2) p hp
      · exact KeptOk.same (keepAll_kept D.pend _ hb.kept) rfl rfl rfl
theorem restFold_few (ks : List Int) (torn : Int) (m0 : Nat) (hm : m0 ≤ 512) (l : List ((Nat × List UInt8) × Nat)) : ∀ D : DS, KeptOk D → (∀ p, p < D.n → (D.kept p).length = 512) → (∀ x ∈ l, x.1.1 < D.n ∧ x.1.2.length = 512) →
    KeptOk (l.foldl (fun D x => stepR ks torn m0 D x.1 x.2) D) ∧ (∀ p, p < D.n → ((l.foldl (fun D x => stepR ks torn m0 D x.1 x.2) D).kept p).length = 512) ∧
      (l.foldl (fun D x => stepR ks torn m0 D x.1 x.2) D).n = D.n ∧ (l.foldl (fun D x => stepR ks torn m0 D x.1 x.2) D).calls = D.calls ∧ (l.foldl (fun D x => stepR ks torn m0 D x.1 x.2) D).hist.length ≤ D.hist.length + l.length := by
  induction l with
  | nil => intro D h1 h2 _; exact ⟨h1, h2, rfl, rfl, by simp⟩
  | cons x l ih =>
    intro D h1 h2 h3
    obtain ⟨s1, s2, s3, s4, s5, s6⟩ := stepR_same ks torn m0 D x.1 x.2
    obtain ⟨r1, r2, r3, r4, r5⟩ := ih (stepR ks torn m0 D x.1 x.2) (stepR_kept _ _ _ _ _ h1) (by rw [s1]; exact stepR_klen _ _ _ _ _ hm (h3 x List.mem_cons_self) h2) (by rw [s1]; exact fun y hy => h3 y (List.mem_cons_of_mem _ hy))
    rw [List.foldl_cons]
    rw [s1] at r2
    exact ⟨r1, r2, r3.trans s1, r4.trans s5, by rw [List.length_cons]; omega⟩
theorem Few.rest {D : DS} {m : Nat} (h : Few D m) (ks : List Int) (torn at_ : Int) : Few (restD D ks torn at_) m := by
  have hm0 := Int.emod_nonneg at_ (by decide : (513 : Int) ≠ 0)
  have hm1 := Int.emod_lt_of_pos at_ (by decide : (0 : Int) < 513)
  obtain ⟨r1, r2, r3, r4, r5⟩ := restFold_few ks torn (at_ % 513).toNat (by omega) D.pend.zipIdx D h.kept h.klen (fun x hx => h.plen _ (by
    obtain ⟨⟨a, b⟩, i⟩ := x
    have := List.mem_zipIdx hx
    simp only at this ⊢
    rw [this.2.2]
    exact List.getElem_mem _))
  rw [List.length_zipIdx] at r5
  have hr := h.rows
  unfold restD restAll
  refine ⟨?_, ?_, by simp only; omega, by simp only; omega, fun x hx => by simp at hx, ?_, ?_⟩
  · simp only [List.length_nil]
    omega
  · simp only
    rw [r4]
    exact h.calls
  · intro p hp
    simp only at hp ⊢
    rw [r3] at hp
    exact r2 p hp
  · exact KeptOk.same r1 rfl rfl rfl
theorem Few.arm {D : DS} {m : Nat} (h : Few D m) (f : Int) (hf : f ≤ 9223372036854775807) : Few (armD D f) m := ⟨h.rows, h.calls, by simp only [armD]; omega, by simp only [armD]; omega, h.plen, h.klen, h.kept⟩

end Go.Proofs.Ytdjndeleafhglaa
