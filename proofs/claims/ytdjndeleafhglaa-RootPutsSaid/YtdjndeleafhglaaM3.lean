/-
  How a suite lies in memory; the walks of Sum and Check, of the real one and of that of terms.
  The walks of sector.written and sector.Encode.
  The walks of sector.read and sector.Decode.
  The walk of sector.Decode.
  The walk of sector.Decode, where the bytes are some.
  Suites that are made.
  A disk and a suite of terms together, in blocks apart.
  Bytes are stamped at a place: written, and flushed; and what the power may do the while. Plain disks, no program.
  What is written is read, by whatever suite: plain lists.
  Roots, in plain words: what is put, read, erased and settled. No program.
  The plain answers of the geometry (layer 21), in numbers, and their bounds. No program stands here.
  The walks of the package geom and of its reference: what each function answers, and that it writes nothing that was there.
  The walks of the package geom, the second half: Size, Root, Super, Log, Area, Where.
-/
import Derived.Test.YtdjndeleafhglaaM2
import Derived.Maps.OwnSet
import Derived.Maps.Keyed
import Derived.Lib.SlBytesRow
import Derived.WalkKit
import Derived.Test.YtdjndeleafhglaaRows
import Derived.Test.YtdjndeleafhglaaM1
namespace Go.Proofs.Ytdjndeleafhglaa
open Go.RowKit

/-- What the map of sums says. -/
structure SaysU (D : DataW Nat) (U : List (List UInt8)) : Prop where
  tidy : Maps.Tidy D
  has : ∀ t, Maps.has D (.string t) = decide (t ∈ U)
  at_ : ∀ t, t ∈ U → ∀ z, D.atKey (.string t) z = .lit (.int .i64 (U.idxOf t : Int))
  size : Maps.size D = U.length
theorem SaysU.nil : SaysU (.map []) [] := ⟨Maps.tidy_empty, fun t => by simp [Maps.has_eq], fun t h => by simp at h, by simp [Maps.size_eq]⟩
theorem SaysU.put {D : DataW Nat} {U : List (List UInt8)} (h : SaysU D U) {t : List UInt8} (ht : t ∉ U) : SaysU (D.put (.string t) (.lit (.int .i64 (U.length : Int)))) (U ++ [t]) := by
  have hk : WideAt.IsKeyLit (.string t) := trivial
  refine ⟨h.tidy.put hk _, fun s => ?_, fun s hs z => ?_, ?_⟩
  · by_cases e : s = t
    · subst e
      rw [Maps.has_put_same h.tidy.isMap hk]
      simp
    · rw [Maps.has_put_other (by simpa using e), h.has]
      simp [e]
  · by_cases e : s = t
    · subst e
      rw [Maps.atKey_put_same h.tidy.isMap hk]
      simp [List.idxOf_append, ht]
    · have hs' : s ∈ U := by simpa [e] using hs
      rw [Maps.atKey_put_other (by simpa using e), h.at_ s hs']
      simp [List.idxOf_append, hs']
  · rw [Maps.size_put h.tidy, h.has, h.size]
    simp [ht]

def RealP (w : World) (u : Nat) : Prop := ∃ src, w.heap[u]? = some (.cells #[.pointer none, .map none, .pointer (some src)] 192 (0, 0))
/-- A suite of terms: what it has summed lies in a map. -/
def SymP (w : World) (u : Nat) (U : List (List UInt8)) (S : Nat → Prop) : Prop := ∃ tb m D, w.heap[u]? = some (.cells #[.pointer (some tb), .map (some m), .pointer none] 192 (0, 0)) ∧
  w.ownsMap Try.prog 9 (plainElem Try.prog 3) m U.length D ∧ SaysU D U ∧ S m ∧ U.length ≤ 1000000
def SuitP (w : World) (u : Nat) (K : SU) (S : Nat → Prop) : Prop := (match K with | none => RealP w u | some U => SymP w u U S) ∧ S u ∧ ∀ k, S k → k < w.heap.size
theorem SuitP.keep {w w' : World} {u : Nat} {K : SU} {S : Nat → Prop} (h : SuitP w u K S) (hz : w.heap.size ≤ w'.heap.size) (hb : ∀ k, S k → w'.heap[k]? = w.heap[k]?) : SuitP w' u K S := by
  obtain ⟨h1, h2, h3⟩ := h
  refine ⟨?_, h2, fun k hk => Nat.lt_of_lt_of_le (h3 k hk) hz⟩
  cases K with
  | none =>
    obtain ⟨src, hs⟩ := h1
    exact ⟨src, (hb u h2).trans hs⟩
  | some U =>
    obtain ⟨tb, m, D, hs, ⟨es, clock, hm, hrest⟩, hsay, hS, hU⟩ := h1
    exact ⟨tb, m, D, (hb u h2).trans hs, ⟨es, clock, (hb m hS).trans hm, hrest⟩, hsay, hS, hU⟩
theorem SuitP.below {w w' : World} {u : Nat} {K : SU} {S : Nat → Prop} (h : SuitP w u K S) (hb : Below w.heap.size w w') : SuitP w' u K S := h.keep hb.size fun k hk => hb.block k (h.2.2 k hk)

/-- The header's cells: is it a real one? -/
theorem SuitP.cells {w : World} {u : Nat} {K : SU} {S : Nat → Prop} (h : SuitP w u K S) : ∃ v0 v1 v2, w.heap[u]? = some (.cells #[.pointer v0, .map v1, .pointer v2] 192 (0, 0)) ∧ v2.isSome = K.isNone ∧ v0.isSome = K.isSome := by
  cases K with
  | none => obtain ⟨⟨src, hs⟩, _⟩ := h; exact ⟨_, _, _, hs, rfl, rfl⟩
  | some U => obtain ⟨⟨tb, m, D, hs, _⟩, _⟩ := h; exact ⟨_, _, _, hs, rfl, rfl⟩

section
variable {w : World} {u : Nat} {K : SU} {S : Nat → Prop}

set_option maxRecDepth 100000 in
set_option maxHeartbeats 400000 in
theorem SNone_any (h : SuitP w u K S) : Calls Try.prog 183 #[.pointer (some ⟨u, 0, none⟩)] w fun e w' => e = .returned (.bool false) ∧ w = w' := by
  obtain ⟨v0, v1, v2, hs, h2, h0⟩ := h.cells
  have c0 : w.cell? ⟨u, 0, none⟩ = some (.pointer v0) := by rw [cell_of_row _ _ _ _ _ _ hs]; rfl
  have c2 : w.cell? ⟨u, 2, none⟩ = some (.pointer v2) := by rw [cell_of_row _ _ _ _ _ _ hs]; rfl
  clear hs
  cases K with
  | none =>
    cases v2 with
    | none => simp at h2
    | some a2 =>
      clear h2 h0
      go_enter Try.func183, Try.ntmps183
      go_wp2_with fail
      go_ret
      exact ⟨by first | rfl | simp, rfl⟩
  | some U =>
    cases v2 with
    | some a2 => simp at h2
    | none =>
      cases v0 with
      | none => simp at h0
      | some a0 =>
        clear h2 h0
        go_enter Try.func183, Try.ntmps183
        go_wp2_with fail
        go_ret
        exact ⟨by first | rfl | simp, rfl⟩

set_option maxRecDepth 100000 in
set_option maxHeartbeats 400000 in
theorem SReal_any (h : SuitP w u K S) : Calls Try.prog 184 #[.pointer (some ⟨u, 0, none⟩)] w fun e w' => e = .returned (.bool K.isNone) ∧ w = w' := by
  obtain ⟨v0, v1, v2, hs, h2, h0⟩ := h.cells
  have c2 : w.cell? ⟨u, 2, none⟩ = some (.pointer v2) := by rw [cell_of_row _ _ _ _ _ _ hs]; rfl
  clear hs h0
  rw [← h2]
  cases v2 with
  | none =>
    clear h2
    go_enter Try.func184, Try.ntmps184
    go_wp2_with fail
    go_ret
    exact ⟨by first | rfl | simp, rfl⟩
  | some a =>
    clear h2
    go_enter Try.func184, Try.ntmps184
    go_wp2_with fail
    go_ret
    exact ⟨by first | rfl | simp, rfl⟩

theorem key_of (l : List UInt8) (h : l.length ≤ 1000000) : keyOf Try.prog 9 (.string ⟨l.toArray⟩) = some (.string l) := by
  have := WideMaps.keyOf_string_mk (P := Try.prog) Try.underlying9 (s := ⟨l.toArray⟩) (by simp [ByteArray.size]; unfold maxLen; omega)
  simpa using this
theorem zero_int (w : World) : (zeroValue 3).run Try.prog w = .ok (.int .i64 0) w := by kernel_rfl
def lookV (U : List (List UInt8)) (t : List UInt8) : Int := if t ∈ U then (U.idxOf t : Int) else 0
theorem run_look {w : World} {m : Nat} {D : DataW Nat} {U : List (List UInt8)} (hm : w.ownsMap Try.prog 9 (plainElem Try.prog 3) m U.length D) (hs : SaysU D U) (l : List UInt8) (hl : l.length ≤ 1000000) :
    (Instr.lookup 188 (.map (some m)) (.string ⟨l.toArray⟩) true).run Try.prog w = .ok (.tuple #[.int .i64 (lookV U l), .bool (decide (l ∈ U))]) w := by
  obtain ⟨v, ps, hr, hv⟩ := hm.look_ok (Maps.string_keyed Try.underlying9) Try.underlying188 (zero_int w) (plainElem_int Try.underlying3 (a := 0) (by decide)) (key_of l hl)
  obtain ⟨c, rfl, hc, _⟩ := plainElem_int_inv Try.underlying3 hv
  rw [hs.has] at hr
  have hat : D.atKey (.string l) (.lit (.int .i64 0)) = .lit (.int .i64 c) := congrArg Prod.fst hc
  by_cases ht : l ∈ U
  · rw [hs.at_ l ht] at hat
    have : c = (U.idxOf l : Int) := by simpa using hat.symm
    rw [hr, this, lookV, if_pos ht]
  · rw [Maps.atKey_of_not_has (by rw [hs.has]; simpa using ht)] at hat
    have : c = 0 := by simpa using hat.symm
    rw [hr, this, lookV, if_neg ht]

set_option maxRecDepth 100000 in
set_option maxHeartbeats 1000000 in
theorem Check_real (A B : Option Addr) (n c m d : Nat) (l s : List UInt8) (h : SuitP w u none S) (hb : BytesAt w A n l) (hs : BytesAt w B m s) (hmd : m ≤ d) (hn : n ≤ 1000000) (hm : m ≤ 1000000) :
    Calls Try.prog 142 #[.pointer (some ⟨u, 0, none⟩), .slice A n c, .slice B m d] w fun e w' => e = .returned (.bool (decide (crcB l = s))) ∧ Below w.heap.size w w' := by
  have Hb := Lib.hid hb; clear hb
  have Hs := Lib.hid hs; clear hs
  go_enter Try.func142, Try.ntmps142
  go_wp2_with fail
  refine (SNone_any h).mono ?_; rintro e w1 ⟨rfl, rfl⟩
  go_wp2_with fail
  refine (SReal_any h).mono ?_; rintro e w1 ⟨rfl, rfl⟩
  go_wp2_with fail
  refine (CBytes_any _ _ _ _ _ Hb.out (by omega)).mono ?_; rintro e w1 ⟨A1, c1, rfl, hown, hb1⟩
  have hB1 := BytesAt.own hown
  have hc1 := own_cap hown
  have hs1 := Hs.out.below hb1
  go_wp2_with fail
  refine (NSame_any _ _ 8 m c1 d _ _ w1 hB1 hc1 hs1 hmd (by omega) (by omega)).mono ?_; rintro e w2 ⟨rfl, hb2⟩
  go_wp2_with fail
  go_ret
  exact ⟨rfl, Bthen hb1 hb2⟩

set_option maxRecDepth 100000 in
set_option maxHeartbeats 1000000 in
theorem Check_sym (A B : Option Addr) (n c m d : Nat) (l s : List UInt8) (U : List (List UInt8)) (h : SuitP w u (some U) S) (hb : BytesAt w A n l) (hs : BytesAt w B m s) (hmd : m ≤ d) (h0 : 0 < n) (hn : n ≤ 1000000) (hm : m ≤ 1000000) :
    Calls Try.prog 142 #[.pointer (some ⟨u, 0, none⟩), .slice A n c, .slice B m d] w fun e w' => e = .returned (.bool (checkU U l s)) ∧ Below w.heap.size w w' := by
  have hx := h
  obtain ⟨⟨tb, mm, D, hd, hmap, hsay, hSm, hUl⟩, hSu, hSl⟩ := hx
  have hul := hSl u hSu
  have hml := hSl mm hSm
  have hlen := hb.len
  have c1 : w.cell? ⟨u, 1, none⟩ = some (.map (some mm)) := by rw [cell_of_row _ _ _ _ _ _ hd]; rfl
  have hs1 : ∀ x : InS (BelowW w), x.w.cell? ⟨u, 1, none⟩ = some (.map (some mm)) := fun x => (inB_cell x hul).trans c1
  have hs2 : ∀ x : InS (BelowW w), (convert 41 9 (.slice A n c)).run Try.prog x.w = .ok (.string ⟨l.toArray⟩) x.w := fun x => conv_str (hb.below x.h) h0
  have hs3 : ∀ x : InS (BelowW w), (Instr.lookup 188 (.map (some mm)) (.string ⟨l.toArray⟩) true).run Try.prog x.w = .ok (.tuple #[.int .i64 (lookV U l), .bool (decide (l ∈ U))]) x.w := fun x => by
    obtain ⟨es, clock, hm', hrest⟩ := hmap
    exact run_look ⟨es, clock, (x.h.block mm hml).trans hm', hrest⟩ hsay l (by omega)
  have Hb := Lib.hid hb; clear hb
  have Hs := Lib.hid hs; clear hs
  clear hd hmap hsay
  by_cases hin : l ∈ U
  · have hlt : U.idxOf l < U.length := List.idxOf_lt_length_of_mem hin
    have hck : checkU U l s = decide (markB (U.idxOf l) = s) := by unfold checkU; simp [hin]
    simp only [lookV, hin, if_true, decide_true] at hs3
    generalize U.idxOf l = k at hlt hck hs3
    have Hck := Lib.hid hck; clear hck
    go_enter Try.func142, Try.ntmps142
    go_wp2_with fail
    refine (SNone_any h).mono ?_; rintro e w1 ⟨rfl, rfl⟩
    go_wp2_with fail
    refine (SReal_any h).mono ?_; rintro e w1 ⟨rfl, rfl⟩
    go_wp2_with fail
    refine wp_region_in (BelowW w) [(0, true), (1, true), (2, true), (3, true), (4, true), (5, true), (6, true), (7, true), (8, true), (9, true), (10, true), (11, true), (12, true)] (by kernel_rfl) (by kernel_rfl) (fun _ _ _ _ _ h => h) (inB_drew _) (fun hne => ?_)
    simp only [permOps, List.map_cons, List.map_nil, List.getD_cons_zero, List.getD_cons_succ]
    (repeat ((with_reducible refine wpPerm_F ?_); intro K hK; go_simp; refine hK _ _ ?_; clear hK K))
    refine wpPerm_nil ?_
    go_wp2_with fail
    refine (mark_any k _ (by omega)).mono ?_; rintro e w1 ⟨A1, c1, rfl, hown, hb1⟩
    have hb1' : Below w.heap.size w w1 := Bthen (Bdrew (Bnil w)) hb1
    have hB1 := BytesAt.own hown
    have hc1 := own_cap hown
    have hs1 := Hs.out.below hb1'
    go_wp2_with fail
    refine (NSame_any _ _ 8 m c1 d _ _ w1 hB1 hc1 hs1 hmd (by omega) (by omega)).mono ?_; rintro e w2 ⟨rfl, hb2⟩
    go_wp2_with fail
    go_ret
    exact ⟨ret_bool Hck.out.symm, Bthen hb1' hb2⟩
  · have hck : checkU U l s = false := by unfold checkU; simp [hin]
    simp only [lookV, hin, if_false, decide_false] at hs3
    have Hck := Lib.hid hck; clear hck
    go_enter Try.func142, Try.ntmps142
    go_wp2_with fail
    refine (SNone_any h).mono ?_; rintro e w1 ⟨rfl, rfl⟩
    go_wp2_with fail
    refine (SReal_any h).mono ?_; rintro e w1 ⟨rfl, rfl⟩
    go_wp2_with fail
    refine wp_region_in (BelowW w) [(0, true), (1, true), (2, true), (3, true), (4, true), (5, true), (6, true), (7, true), (8, true), (9, true), (10, true), (11, true), (12, true)] (by kernel_rfl) (by kernel_rfl) (fun _ _ _ _ _ h => h) (inB_drew _) (fun hne => ?_)
    simp only [permOps, List.map_cons, List.map_nil, List.getD_cons_zero, List.getD_cons_succ]
    (repeat ((with_reducible refine wpPerm_F ?_); intro K hK; go_simp; refine hK _ _ ?_; clear hK K))
    refine wpPerm_nil ?_
    go_wp2_with fail
    go_ret
    exact ⟨ret_bool Hck.out.symm, Bdrew (Bnil w)⟩

theorem Check_any (A B : Option Addr) (n c m d : Nat) (l s : List UInt8) (h : SuitP w u K S) (hb : BytesAt w A n l) (hs : BytesAt w B m s) (hmd : m ≤ d) (h0 : 0 < n) (hn : n ≤ 1000000) (hm : m ≤ 1000000) :
    Calls Try.prog 142 #[.pointer (some ⟨u, 0, none⟩), .slice A n c, .slice B m d] w fun e w' => e = .returned (.bool (checkK K l s)) ∧ Below w.heap.size w w' := by
  cases K with
  | none => exact Check_real A B n c m d l s h hb hs hmd hn hm
  | some U => exact Check_sym A B n c m d l s U h hb hs hmd h0 hn hm

set_option maxRecDepth 100000 in
set_option maxHeartbeats 1000000 in
theorem Sum_real (A : Option Addr) (n c : Nat) (l : List UInt8) (h : SuitP w u none S) (hb : BytesAt w A n l) (hn : n ≤ 1000000) :
    Calls Try.prog 150 #[.pointer (some ⟨u, 0, none⟩), .slice A n c] w fun e w' => ∃ A' c', e = .returned (.slice A' 8 c') ∧ w'.ownsRow w.heap.size 5 1 (.slice A' 8 c') 8 (bytesV (crcB l)) ∧ Below w.heap.size w w' := by
  have Hb := Lib.hid hb; clear hb
  go_enter Try.func150, Try.ntmps150
  go_wp2_with fail
  refine (SNone_any h).mono ?_; rintro e w1 ⟨rfl, rfl⟩
  go_wp2_with fail
  refine (SReal_any h).mono ?_; rintro e w1 ⟨rfl, rfl⟩
  go_wp2_with fail
  refine (CBytes_any _ _ _ _ _ Hb.out (by omega)).mono ?_; rintro e w1 ⟨A1, c1, rfl, hown, hb1⟩
  go_wp2_with fail
  go_ret
  exact ⟨_, _, rfl, hown, hb1⟩

theorem wp_mapUpdate {P : Program} {w : World} {o : Oper} {a : Act} {K : Act → World → Prop} {Q : Exit → Act → World → Prop} (t : TypeId) (m x v : Operand) (ho : o.op = .mapUpdate t m x v) (vm vx vv : Value) (hm : a.eval m = vm) (hx : a.eval x = vx) (hv : a.eval v = vv)
    (w' : World) (hr : (Instr.mapUpdate t vm vx vv).run P w = .ok () w') (h : K (a.put o.dst undef) w') : o.wp P a w K Q := by
  unfold Oper.wp
  simp [execOp, ho, hm, hx, hv, hr, Result.andThen]
  exact h
theorem okVal_len {P : Program} {H : Type} {k e t : TypeId} {R : Value → Option (DataW H × List MemPlace)} {n m : Nat} {D : DataW H} (ht : P.underlying t = some (.map k e)) {w : World} (hm : w.ownsMap P k R m n D) (ty : TypeId) :
    (Builtin.len_ #[t] ty #[.map (some m)]).run P w = .ok (.int .i64 (Maps.size D)) w := hm.len ht ty

set_option maxRecDepth 100000 in
set_option maxHeartbeats 1000000 in
theorem Sum_sym (A : Option Addr) (n c : Nat) (l : List UInt8) (U : List (List UInt8)) (h : SuitP w u (some U) S) (hb : BytesAt w A n l) (h0 : 0 < n) (hn : n ≤ 1000000) (hU : U.length + 1 ≤ 1000000) :
    Calls Try.prog 150 #[.pointer (some ⟨u, 0, none⟩), .slice A n c] w fun e w' => ∃ A' c', e = .returned (.slice A' 8 c') ∧ w'.ownsRow w.heap.size 5 1 (.slice A' 8 c') 8 (bytesV (markB (sumU U l).1)) ∧
      SuitP w' u (some (sumU U l).2) S ∧ Frame S w w' := by
  have hx := h
  obtain ⟨⟨tb, mm, D, hd, hmap, hsay, hSm, hUl⟩, hSu, hSl⟩ := hx
  have hul := hSl u hSu
  have hml := hSl mm hSm
  have hlen := hb.len
  have c1 : w.cell? ⟨u, 1, none⟩ = some (.map (some mm)) := by rw [cell_of_row _ _ _ _ _ _ hd]; rfl
  have hs1 : ∀ x : InS (BelowW w), x.w.cell? ⟨u, 1, none⟩ = some (.map (some mm)) := fun x => (inB_cell x hul).trans c1
  have hs2 : ∀ x : InS (BelowW w), (convert 41 9 (.slice A n c)).run Try.prog x.w = .ok (.string ⟨l.toArray⟩) x.w := fun x => conv_str (hb.below x.h) h0
  have hs3 : ∀ x : InS (BelowW w), (Instr.lookup 188 (.map (some mm)) (.string ⟨l.toArray⟩) true).run Try.prog x.w = .ok (.tuple #[.int .i64 (lookV U l), .bool (decide (l ∈ U))]) x.w := fun x => by
    obtain ⟨es, clock, hm', hrest⟩ := hmap
    exact run_look ⟨es, clock, (x.h.block mm hml).trans hm', hrest⟩ hsay l (by omega)
  have Hb := Lib.hid hb; clear hb
  by_cases hin : l ∈ U
  · have hlt : U.idxOf l < U.length := List.idxOf_lt_length_of_mem hin
    have hck : sumU U l = (U.idxOf l, U) := by unfold sumU; simp [hin]
    rw [hck]
    simp only [lookV, hin, if_true, decide_true] at hs3
    clear hd hmap hsay hck
    generalize U.idxOf l = k at hlt hs3 ⊢
    go_enter Try.func150, Try.ntmps150
    go_wp2_with fail
    refine (SNone_any h).mono ?_; rintro e w1 ⟨rfl, rfl⟩
    go_wp2_with fail
    refine (SReal_any h).mono ?_; rintro e w1 ⟨rfl, rfl⟩
    go_wp2_with fail
    refine wp_region_in (BelowW w) [(0, true), (1, true), (2, true), (3, true), (4, true), (5, true), (6, true), (7, true), (8, true), (9, true), (10, true), (11, true), (12, true)] (by kernel_rfl) (by kernel_rfl) (fun _ _ _ _ _ h => h) (inB_drew _) (fun hne => ?_)
    simp only [permOps, List.map_cons, List.map_nil, List.getD_cons_zero, List.getD_cons_succ]
    (repeat ((with_reducible refine wpPerm_F ?_); intro K hK; go_simp; refine hK _ _ ?_; clear hK K))
    refine wpPerm_nil ?_
    go_wp2_with fail
    refine (mark_any k _ (by omega)).mono ?_; rintro e w1 ⟨A1, c1, rfl, hown, hb1⟩
    have hb1' : Below w.heap.size w w1 := Bthen (Bdrew (Bnil w)) hb1
    go_wp2_with fail
    go_ret
    exact ⟨_, _, rfl, hown, h.below hb1', Frame.of_below hb1'⟩
  · have hck : sumU U l = (U.length, U ++ [l]) := by unfold sumU; simp [hin]
    rw [hck]
    simp only [lookV, hin, if_false, decide_false] at hs3
    have hsz : Maps.size D = U.length := hsay.size
    have Hsay := Lib.hid hsay; clear hsay
    have Hd := Lib.hid hd; clear hd
    have Hmap := Lib.hid hmap; clear hmap
    clear hck
    have hlen2 : (Builtin.len_ #[188] 3 #[.map (some mm)]).run Try.prog w.drew = .ok (.int .i64 (U.length : Int)) w.drew := by
      rw [← hsz]; exact World.ownsMap.len (w := w.drew) Hmap.out.drew Try.underlying188 _
    have Hsz := Lib.hid hsz; clear hsz
    go_enter Try.func150, Try.ntmps150
    go_wp2_with fail
    refine (SNone_any h).mono ?_; rintro e w1 ⟨rfl, rfl⟩
    go_wp2_with fail
    refine (SReal_any h).mono ?_; rintro e w1 ⟨rfl, rfl⟩
    go_wp2_with fail
    refine wp_region_in (BelowW w) [(0, true), (1, true), (2, true), (3, true), (4, true), (5, true), (6, true), (7, true), (8, true), (9, true), (10, true), (11, true), (12, true)] (by kernel_rfl) (by kernel_rfl) (fun _ _ _ _ _ h => h) (inB_drew _) (fun hne => ?_)
    simp only [permOps, List.map_cons, List.map_nil, List.getD_cons_zero, List.getD_cons_succ]
    (repeat ((with_reducible refine wpPerm_F ?_); intro K hK; go_simp; refine hK _ _ ?_; clear hK K))
    refine wpPerm_nil ?_
    go_wp2_with fail
    obtain ⟨W2, hrun, hmap2, hgrow⟩ := World.ownsMap.update (w := w.drew.drew) Hmap.out.drew.drew (Maps.string_keyed Try.underlying9) Try.underlying188 (by unfold maxLen; omega) (val := .int .i64 (U.length : Int)) (key_of l (by omega)) (plainElem_int Try.underlying3 (by simp [Lit.wf, IntKind.min, IntKind.max, IntKind.bits, IntKind.signed]; omega))
    have Hrun := Lib.hid hrun; clear hrun
    have hs1' := hs1
    refine wp_region_in (BelowW w) [(0, true), (1, true), (2, true), (3, true), (4, true), (5, true), (6, true), (7, true), (8, false)] (by kernel_rfl) (by kernel_rfl) (fun _ _ _ _ _ h => h) ((Bdrew (Bdrew (Bnil w)))) (fun hne => ?_)
    simp only [permOps, List.map_cons, List.map_nil, List.getD_cons_zero, List.getD_cons_succ]
    (repeat ((with_reducible refine wpPerm_F ?_); intro K hK; go_simp; refine hK _ _ ?_; clear hK K))
    (with_reducible refine wpPerm_L rfl ?_); intro K hK
    refine wp_mapUpdate 188 _ _ _ rfl _ _ _ rfl rfl rfl W2 Hrun.out ?_
    (refine hK _ _ ?_; clear hK K)
    have hfr : Frame S w W2 := (Frame.of_below (Bdrew (Bdrew (Bnil w)))).grown hgrow (fun k hk => by cases hk; exact .inl hSm)
    have hsu2 : SuitP W2 u (some (U ++ [l])) S := by
      refine ⟨⟨tb, mm, _, ?_, ?_, Hsay.out.put hin, hSm, by simp; omega⟩, hSu, fun k hk => Nat.lt_of_lt_of_le (hSl k hk) hfr.size⟩
      · rw [hgrow.block u (by simpa using hul) (fun e => ?_)]
        · exact Hd.out
        · have he : u = mm := by simpa using e
          have h1 := Hd.out
          obtain ⟨es, clock, hm', _⟩ := Hmap.out
          rw [he, hm'] at h1
          cases h1
      · simpa using hmap2
    have Hsu2 := Lib.hid hsu2; clear hsu2 hmap2 hgrow
    clear hs1 hs2 hs3 hs1' hlen2
    go_wp2_with fail
    refine (mark_any U.length _ (by omega)).mono ?_; rintro e w1 ⟨A1, c1, rfl, hown, hb1⟩
    go_wp2_with fail
    go_ret
    exact ⟨_, _, rfl, own_mono hown hfr.size, Hsu2.out.below hb1, hfr.trans (Frame.of_below (S := S) hb1) (fun j hj => .inl hj)⟩

theorem Sum_any (A : Option Addr) (n c : Nat) (l : List UInt8) (h : SuitP w u K S) (hb : BytesAt w A n l) (h0 : 0 < n) (hn : n ≤ 1000000) (hU : roomK K + 1 ≤ 1000000) :
    Calls Try.prog 150 #[.pointer (some ⟨u, 0, none⟩), .slice A n c] w fun e w' => ∃ A' c', e = .returned (.slice A' 8 c') ∧ w'.ownsRow w.heap.size 5 1 (.slice A' 8 c') 8 (bytesV (sumK K l).1) ∧
      SuitP w' u (sumK K l).2 S ∧ Frame S w w' := by
  cases K with
  | none => exact (Sum_real A n c l h hb hn).mono fun _ _ ⟨A', c', he, ho, hbl⟩ => ⟨A', c', he, ho, h.below hbl, Frame.of_below hbl⟩
  | some U => exact Sum_sym A n c l U h hb h0 hn hU

end
end Go.Proofs.Ytdjndeleafhglaa
namespace Go.Proofs.Ytdjndeleafhglaa
open Go.RowKit

theorem fld0 (n0 n1 n2 n3 n4 n5 : Nat) (w : World) : (Instr.index 249 (.agg #[.int .u64 (n0 : Int), .int .i64 1, .int .u64 (n1 : Int), .int .i64 2, .int .u64 (n2 : Int), .int .i64 8, .int .u64 (n3 : Int), .int .i64 4, .int .u64 (n4 : Int), .int .i64 8, .int .u64 (n5 : Int), .int .i64 2]) (.int .i64 0)).run Try.prog w = .ok (.agg #[.int .u64 (n0 : Int), .int .i64 1]) w := by kernel_rfl
theorem fld1 (n0 n1 n2 n3 n4 n5 : Nat) (w : World) : (Instr.index 249 (.agg #[.int .u64 (n0 : Int), .int .i64 1, .int .u64 (n1 : Int), .int .i64 2, .int .u64 (n2 : Int), .int .i64 8, .int .u64 (n3 : Int), .int .i64 4, .int .u64 (n4 : Int), .int .i64 8, .int .u64 (n5 : Int), .int .i64 2]) (.int .i64 1)).run Try.prog w = .ok (.agg #[.int .u64 (n1 : Int), .int .i64 2]) w := by kernel_rfl
theorem fld2 (n0 n1 n2 n3 n4 n5 : Nat) (w : World) : (Instr.index 249 (.agg #[.int .u64 (n0 : Int), .int .i64 1, .int .u64 (n1 : Int), .int .i64 2, .int .u64 (n2 : Int), .int .i64 8, .int .u64 (n3 : Int), .int .i64 4, .int .u64 (n4 : Int), .int .i64 8, .int .u64 (n5 : Int), .int .i64 2]) (.int .i64 2)).run Try.prog w = .ok (.agg #[.int .u64 (n2 : Int), .int .i64 8]) w := by kernel_rfl
theorem fld3 (n0 n1 n2 n3 n4 n5 : Nat) (w : World) : (Instr.index 249 (.agg #[.int .u64 (n0 : Int), .int .i64 1, .int .u64 (n1 : Int), .int .i64 2, .int .u64 (n2 : Int), .int .i64 8, .int .u64 (n3 : Int), .int .i64 4, .int .u64 (n4 : Int), .int .i64 8, .int .u64 (n5 : Int), .int .i64 2]) (.int .i64 3)).run Try.prog w = .ok (.agg #[.int .u64 (n3 : Int), .int .i64 4]) w := by kernel_rfl
theorem fld4 (n0 n1 n2 n3 n4 n5 : Nat) (w : World) : (Instr.index 249 (.agg #[.int .u64 (n0 : Int), .int .i64 1, .int .u64 (n1 : Int), .int .i64 2, .int .u64 (n2 : Int), .int .i64 8, .int .u64 (n3 : Int), .int .i64 4, .int .u64 (n4 : Int), .int .i64 8, .int .u64 (n5 : Int), .int .i64 2]) (.int .i64 4)).run Try.prog w = .ok (.agg #[.int .u64 (n4 : Int), .int .i64 8]) w := by kernel_rfl
theorem fld5 (n0 n1 n2 n3 n4 n5 : Nat) (w : World) : (Instr.index 249 (.agg #[.int .u64 (n0 : Int), .int .i64 1, .int .u64 (n1 : Int), .int .i64 2, .int .u64 (n2 : Int), .int .i64 8, .int .u64 (n3 : Int), .int .i64 4, .int .u64 (n4 : Int), .int .i64 8, .int .u64 (n5 : Int), .int .i64 2]) (.int .i64 5)).run Try.prog w = .ok (.agg #[.int .u64 (n5 : Int), .int .i64 2]) w := by kernel_rfl

set_option maxRecDepth 100000 in
set_option maxHeartbeats 2000000 in
theorem written_any (p k q l g : Nat) (b : List UInt8) (A : Option Addr) (c : Nat) (w : World) (h : rightS (p : Int) ⟨(k : Int), l, (q : Int), g, b⟩ = 0) (hb : BytesAt w A b.length b) :
    Calls Try.prog 141 #[.int .i64 (p : Int), secV ⟨(k : Int), l, (q : Int), g, b⟩ A c] w fun e w' => ∃ g', e = .returned (.slice (some ⟨g', 0, none⟩) 504 504) ∧
      w'.ownsRow w.heap.size 5 1 (.slice (some ⟨g', 0, none⟩) 504 504) 504 (bytesV (textS (p : Int) ⟨(k : Int), l, (q : Int), g, b⟩)) ∧ Below w.heap.size w w' := by
  obtain ⟨r1, r2, r3, r4, r5, r6, r7⟩ := rightS_ok.1 h
  simp only at r1 r2 r5 r6 r7
  unfold secV
  simp only
  have hi0 := fun W => fld0 k p l q g b.length W
  have hi1 := fun W => fld1 k p l q g b.length W
  have hi2 := fun W => fld2 k p l q g b.length W
  have hi3 := fun W => fld3 k p l q g b.length W
  have hi4 := fun W => fld4 k p l q g b.length W
  have hi5 := fun W => fld5 k p l q g b.length W
  have Hb := Lib.hid hb; clear hb h
  go_enter Try.func141, Try.ntmps141
  go_wp2_with fail
  have hx4 : (w.alloc (.cells #[.int .i64 (k : Int), .int .u64 (l : Int), .int .i64 (q : Int), .int .u64 (g : Int), .slice A b.length c] 54)).cell? ⟨w.heap.size, 4, none⟩ = some (.slice A b.length c) := by
    rw [cell_of_row _ _ _ _ _ _ (heap_alloc_new w _)]; rfl
  have hB0 : Below w.heap.size w (w.alloc (.cells #[.int .i64 (k : Int), .int .u64 (l : Int), .int .i64 (q : Int), .int .u64 (g : Int), .slice A b.length c] 54)) := Bbox _ _
  have hZ0 : w.heap.size < (w.alloc (.cells #[.int .i64 (k : Int), .int .u64 (l : Int), .int .i64 (q : Int), .int .u64 (g : Int), .slice A b.length c] 54)).heap.size := by simp
  generalize w.alloc (.cells #[.int .i64 (k : Int), .int .u64 (l : Int), .int .i64 (q : Int), .int .u64 (g : Int), .slice A b.length c] 54) = W0 at hx4 hB0 hZ0 ⊢
  have Hx0 := Lib.hid hx4; clear hx4
  have hown0 : W0.ownsRow W0.heap.size 5 1 (.slice none 0 0) 0 (bytesV []) := World.ownsRow_nil _ _ _ _
  have hC0 : Below W0.heap.size W0 W0 := Bnil W0
  refine wp_loop_rounds 7 ?_
  rw [rounds_succ]
  go_wp2_with fail
  refine (NPut_any k 1 _ (by decide) (by decide)).mono ?_
  rintro e wp ⟨Ap, cp, rfl, hownp, hbp⟩
  have hbx : Below W0.heap.size W0 wp := Bthen (Bbox _ _) hbp
  have hCp := Bthen hC0 hbx
  have hzp := hCp.size
  have Hacc := Lib.hid (own_below hown0 hbx)
  have Hbp := Lib.hid (BytesAt.own hownp); clear hownp
  clear hown0 hbx
  go_wp2_with (at_builtin; refine wpList_appB rfl _ _ rfl W0.heap.size 0 _ rfl _ Hacc.out Ap 1 cp rfl _ Hbp.out (by decide) hzp ?_; intro A1 c1 W1 hown1 hg hat)
  have hC1 := Below.app hCp Hacc.out hg hzp
  clear hat hg hzp hCp hbp Hacc Hbp
  rw [rounds_succ]
  go_wp2_with fail
  refine (NPut_any p 2 _ (by decide) (by decide)).mono ?_
  rintro e wp ⟨Ap, cp, rfl, hownp, hbp⟩
  have hbx : Below W1.heap.size W1 wp := Bthen (Bbox _ _) hbp
  have hCp := Bthen hC1 hbx
  have hzp := hCp.size
  have Hacc := Lib.hid (own_below hown1 hbx)
  have Hbp := Lib.hid (BytesAt.own hownp); clear hownp
  clear hown1 hbx
  go_wp2_with (at_builtin; refine wpList_appB rfl _ _ rfl W0.heap.size 1 _ rfl _ Hacc.out Ap 2 cp rfl _ Hbp.out (by decide) hzp ?_; intro A2 c2 W2 hown2 hg hat)
  have hC2 := Below.app hCp Hacc.out hg hzp
  clear hat hg hzp hCp hbp Hacc Hbp
  rw [rounds_succ]
  go_wp2_with fail
  refine (NPut_any l 8 _ (by decide) (by decide)).mono ?_
  rintro e wp ⟨Ap, cp, rfl, hownp, hbp⟩
  have hbx : Below W2.heap.size W2 wp := Bthen (Bbox _ _) hbp
  have hCp := Bthen hC2 hbx
  have hzp := hCp.size
  have Hacc := Lib.hid (own_below hown2 hbx)
  have Hbp := Lib.hid (BytesAt.own hownp); clear hownp
  clear hown2 hbx
  go_wp2_with (at_builtin; refine wpList_appB rfl _ _ rfl W0.heap.size 3 _ rfl _ Hacc.out Ap 8 cp rfl _ Hbp.out (by decide) hzp ?_; intro A3 c3 W3 hown3 hg hat)
  have hC3 := Below.app hCp Hacc.out hg hzp
  clear hat hg hzp hCp hbp Hacc Hbp
  rw [rounds_succ]
  go_wp2_with fail
  refine (NPut_any q 4 _ (by decide) (by decide)).mono ?_
  rintro e wp ⟨Ap, cp, rfl, hownp, hbp⟩
  have hbx : Below W3.heap.size W3 wp := Bthen (Bbox _ _) hbp
  have hCp := Bthen hC3 hbx
  have hzp := hCp.size
  have Hacc := Lib.hid (own_below hown3 hbx)
  have Hbp := Lib.hid (BytesAt.own hownp); clear hownp
  clear hown3 hbx
  go_wp2_with (at_builtin; refine wpList_appB rfl _ _ rfl W0.heap.size 11 _ rfl _ Hacc.out Ap 4 cp rfl _ Hbp.out (by decide) hzp ?_; intro A4 c4 W4 hown4 hg hat)
  have hC4 := Below.app hCp Hacc.out hg hzp
  clear hat hg hzp hCp hbp Hacc Hbp
  rw [rounds_succ]
  go_wp2_with fail
  refine (NPut_any g 8 _ (by decide) (by decide)).mono ?_
  rintro e wp ⟨Ap, cp, rfl, hownp, hbp⟩
  have hbx : Below W4.heap.size W4 wp := Bthen (Bbox _ _) hbp
  have hCp := Bthen hC4 hbx
  have hzp := hCp.size
  have Hacc := Lib.hid (own_below hown4 hbx)
  have Hbp := Lib.hid (BytesAt.own hownp); clear hownp
  clear hown4 hbx
  go_wp2_with (at_builtin; refine wpList_appB rfl _ _ rfl W0.heap.size 15 _ rfl _ Hacc.out Ap 8 cp rfl _ Hbp.out (by decide) hzp ?_; intro A5 c5 W5 hown5 hg hat)
  have hC5 := Below.app hCp Hacc.out hg hzp
  clear hat hg hzp hCp hbp Hacc Hbp
  rw [rounds_succ]
  go_wp2_with fail
  refine (NPut_any b.length 2 _ (by decide) (by decide)).mono ?_
  rintro e wp ⟨Ap, cp, rfl, hownp, hbp⟩
  have hbx : Below W5.heap.size W5 wp := Bthen (Bbox _ _) hbp
  have hCp := Bthen hC5 hbx
  have hzp := hCp.size
  have Hacc := Lib.hid (own_below hown5 hbx)
  have Hbp := Lib.hid (BytesAt.own hownp); clear hownp
  clear hown5 hbx
  go_wp2_with (at_builtin; refine wpList_appB rfl _ _ rfl W0.heap.size 23 _ rfl _ Hacc.out Ap 2 cp rfl _ Hbp.out (by decide) hzp ?_; intro A6 c6 W6 hown6 hg hat)
  have hC6 := Below.app hCp Hacc.out hg hzp
  clear hat hg hzp hCp hbp Hacc Hbp
  rw [rounds_succ]
  have hx4 := (hC6.cell (p := ⟨w.heap.size, 4, none⟩) hZ0).trans Hx0.out
  have Hb6 := Lib.hid (Hb.out.below (w' := W6) (Bthen hB0 hC6))
  have Hacc := Lib.hid hown6; clear hown6
  have hz6 := hC6.size
  go_wp2_with (at_builtin; refine wpList_appB rfl _ _ rfl W0.heap.size 25 _ rfl _ Hacc.out A b.length c rfl _ Hb6.out (by omega) hz6 ?_; intro A7 c7 W7 hown7 hg hat)
  have hC7 := Below.app hC6 Hacc.out hg hz6
  have HB7 := Lib.hid (BytesAt.own hown7)
  clear hat hg Hacc Hb6 hown7
  refine (NPad_any A7 (25 + b.length) c7 504 _ W7 HB7.out (by omega) (by decide) (by decide)).mono ?_
  rintro e w8 ⟨rfl, hp8, hb8⟩
  go_wp2_with fail
  go_ret
  have hB7 := Bthen hB0 hC7
  have hlen : (textS (p : Int) ⟨(k : Int), l, (q : Int), g, b⟩).length = 504 := textS_length _ _
  refine ⟨_, rfl, own_of_block 504 hlen ?_ hB7.size (by decide), Bthen hB7 hb8⟩
  rw [hp8]
  simp [textS, headS]

theorem written_all (p : Int) (x : Sec) (A : Option Addr) (c : Nat) (w : World) (h : rightS p x = 0) (hb : BytesAt w A x.body.length x.body) :
    Calls Try.prog 141 #[.int .i64 p, secV x A c] w fun e w' => ∃ g', e = .returned (.slice (some ⟨g', 0, none⟩) 504 504) ∧
      w'.ownsRow w.heap.size 5 1 (.slice (some ⟨g', 0, none⟩) 504 504) 504 (bytesV (textS p x)) ∧ Below w.heap.size w w' := by
  obtain ⟨k, l, q, g, b⟩ := x
  obtain ⟨h1, h2, h3, h4, h5, h6, h7⟩ := rightS_ok.1 h
  simp only at h1 h5
  obtain ⟨k, rfl⟩ := Int.eq_ofNat_of_zero_le (show 0 ≤ k by omega)
  obtain ⟨q, rfl⟩ := Int.eq_ofNat_of_zero_le h5
  obtain ⟨p, rfl⟩ := Int.eq_ofNat_of_zero_le h3
  exact written_any p k q l g b A c w h hb

theorem own_frame {w w' : World} {S : Nat → Prop} {base : Nat} {e : TypeId} {size : Nat} {v : Value} {n : Nat} {xs : List Value} (h : w.ownsRow base e size v n xs) (hf : Frame S w w') (hS : ∀ k, S k → k < base) : w'.ownsRow base e size v n xs :=
  own_same h fun g cur hg _ => hf.block g (h.lt g hg).2 (fun hs => by have := hS g hs; have := (h.lt g hg).1; omega)

theorem cells5 {w : World} {x : Nat} {a b c d e : Value} {t : TypeId} (h : w.heap[x]? = some (.cells #[a, b, c, d, e] t (0, 0))) :
    w.cell? ⟨x, 0, none⟩ = some a ∧ w.cell? ⟨x, 1, none⟩ = some b ∧ w.cell? ⟨x, 2, none⟩ = some c ∧ w.cell? ⟨x, 3, none⟩ = some d ∧ w.cell? ⟨x, 4, none⟩ = some e ∧ ∀ i, w.frozen? ⟨x, i, none⟩ = false := by
  refine ⟨?_, ?_, ?_, ?_, ?_, fun i => ?_⟩
  all_goals first
    | (rw [cell_of_row _ _ _ _ _ _ h]; rfl)
    | (simp [World.frozen?, h])
theorem padB_self {l : List UInt8} {n : Nat} (h : l.length = n) : padB l n = l := by
  rw [padB_le (by omega), h, Nat.sub_self, List.replicate_zero, List.append_nil]

section
variable {w : World} {u : Nat} {K : SU} {S : Nat → Prop}
set_option maxRecDepth 100000 in
theorem Encode_nil (p : Int) (x : Sec) (A : Option Addr) (c : Nat) (w : World) :
    Calls Try.prog 66 #[.pointer none, .int .i64 p, secV x A c] w fun e w' => e = .returned (.tuple #[.slice none 0 0, .int .i64 1]) ∧ Below w.heap.size w w' := by
  unfold secV
  go_enter Try.func66, Try.ntmps66
  go_wp2_with fail
  refine (none_nil _).mono ?_; rintro e w1 ⟨rfl, rfl⟩
  go_wp2_with fail
  go_ret2
  exact ⟨rfl, Bbox _ _⟩

set_option maxRecDepth 100000 in
theorem Encode_no (p : Int) (x : Sec) (A : Option Addr) (c : Nat) (h : rightS p x ≠ 0) :
    Calls Try.prog 66 #[.pointer (some ⟨u, 0, none⟩), .int .i64 p, secV x A c] w fun e w' => e = .returned (.tuple #[.slice none 0 0, .int .i64 (rightS p x)]) ∧ Below w.heap.size w w' := by
  have hr := fun W => right_any p x A c W
  have hx0 : ∀ W : World, (W.alloc (.cells (secV x A c).cells 54)).heap[W.heap.size]? = some (.cells (secV x A c).cells 54 (0, 0)) := fun W => heap_alloc_new W _
  have hne : ¬ rightS p x = 0 := h
  have hb0 : (rightS p x != 0) = true := by simpa using h
  generalize rightS p x = r at hr hne hb0 ⊢
  unfold secV at hr ⊢
  have Hr := Lib.hid hr; clear hr hx0 h
  go_enter Try.func66, Try.ntmps66
  go_wp2_with fail
  refine (none_any _ _).mono ?_; rintro e w1 ⟨rfl, rfl⟩
  go_wp2_with fail
  refine (Hr.out _).mono ?_; rintro e w1 ⟨rfl, hb1⟩
  go_wp2_with fail
  go_ret2
  exact ⟨rfl, Bthen (Bbox _ _) hb1⟩

set_option maxRecDepth 100000 in
set_option maxHeartbeats 1000000 in
theorem Encode_yes (p k q l g : Nat) (b : List UInt8) (A : Option Addr) (c : Nat) (hK : SuitP w u K S) (h : rightS (p : Int) ⟨(k : Int), l, (q : Int), g, b⟩ = 0) (hb : BytesAt w A b.length b) (hU : roomK K + 1 ≤ 1000000) :
    Calls Try.prog 66 #[.pointer (some ⟨u, 0, none⟩), .int .i64 (p : Int), secV ⟨(k : Int), l, (q : Int), g, b⟩ A c] w fun e w' => ∃ A' c', e = .returned (.tuple #[.slice A' 512 c', .int .i64 0]) ∧
      w'.ownsRow w.heap.size 5 1 (.slice A' 512 c') 512 (bytesV (encK K (p : Int) ⟨(k : Int), l, (q : Int), g, b⟩).1) ∧ SuitP w' u (encK K (p : Int) ⟨(k : Int), l, (q : Int), g, b⟩).2 S ∧ Frame S w w' := by
  have hr := fun W => right_any (p : Int) ⟨(k : Int), l, (q : Int), g, b⟩ A c W
  rw [h] at hr
  have hwr := fun W => written_any p k q l g b A c W h
  unfold encK
  have hSl := hK.2.2
  unfold secV at hr hwr ⊢
  simp only at hr hwr ⊢
  generalize textS (p : Int) ⟨(k : Int), l, (q : Int), g, b⟩ = T at hwr ⊢
  have hTl : (sumK K T).1.length = 8 := sumK_length K T
  have Hr := Lib.hid hr; clear hr
  have Hwr := Lib.hid hwr; clear hwr
  have Hb := Lib.hid hb; clear hb
  have HTl := Lib.hid hTl; clear hTl h
  go_enter Try.func66, Try.ntmps66
  go_wp2_with fail
  refine (none_any _ _).mono ?_; rintro e w1 ⟨rfl, rfl⟩
  go_wp2_with fail
  have hbx : Below w.heap.size w (w.alloc (.cells #[.int .i64 (k : Int), .int .u64 (l : Int), .int .i64 (q : Int), .int .u64 (g : Int), .slice A b.length c] 54)) := Bbox _ _
  have hx0 := heap_alloc_new w (.cells #[.int .i64 (k : Int), .int .u64 (l : Int), .int .i64 (q : Int), .int .u64 (g : Int), .slice A b.length c] 54)
  generalize w.alloc (.cells #[.int .i64 (k : Int), .int .u64 (l : Int), .int .i64 (q : Int), .int .u64 (g : Int), .slice A b.length c] 54) = W0 at hbx hx0 ⊢
  have hx0l := blk_lt hx0
  refine (Hr.out _).mono ?_; rintro e w1 ⟨rfl, hb1⟩
  have hx1 := (hb1.block _ hx0l).trans hx0
  have hx1l := blk_lt hx1
  have HB1 := Bthen hbx hb1
  obtain ⟨d0, d1, d2, d3, d4, df⟩ := cells5 hx1
  have hb1' := Hb.out.below HB1
  go_wp2_with fail
  refine (Hwr.out _ hb1').mono ?_; rintro e w2 ⟨g2, rfl, hown2, hb2⟩
  have hz1 := HB1.size
  have HB2 := Bthen HB1 hb2
  have hBT := BytesAt.own hown2
  have hK2 := hK.below HB2
  have hTlen := hBT.len
  go_wp2_with fail
  refine (Sum_any (some ⟨g2, 0, none⟩) 504 504 T hK2 hBT (by decide) (by decide) hU).mono ?_
  rintro e w3 ⟨A3, c3, rfl, hown3, hK3, hf3⟩
  have hownT := own_frame hown2 hf3 (fun k hk => by have := hSl k hk; omega)
  have hB3 := BytesAt.own hown3
  go_wp2_with fail
  refine (NPad_any A3 8 c3 8 _ w3 hB3 (by decide) (by decide) (by decide)).mono ?_
  rintro e w4 ⟨rfl, hp4, hb4⟩
  rw [padB_self HTl.out] at hp4
  have hownT4 := own_below hownT hb4
  have hB4 := BytesAt.of_block (l := (sumK K T).1) 8 HTl.out hp4
  have hz3 := hf3.size
  have hz4 := hb4.size
  have hz2 := hb2.size
  have HownT4 := Lib.hid hownT4
  have HB4 := Lib.hid hB4
  clear hownT4 hB4 hp4 hown2 hown3 hBT hownT hB3 hx0 hx1 d0 d1 d2 d3 d4 hb1'
  go_wp2_with (at_builtin; refine wpList_appB rfl _ _ rfl w1.heap.size 504 _ rfl _ HownT4.out (some ⟨w3.heap.size, 0, none⟩) 8 8 rfl _ HB4.out (by decide) (by omega) ?_; intro A5 c5 w5 hown5 hg5 hat5)
  go_ret2
  have hS1 : ∀ k, S k → k < w1.heap.size := fun k hk => by have := hSl k hk; omega
  have hfin : Below w1.heap.size w4 w5 := (Below.refl _ _).grown hg5 (by omega) (fun k hk => (HownT4.out.lt k hk).1)
  have hfr : Frame S w w5 := ((((Frame.of_below (S := S) HB2).trans hf3 (fun j hj => .inl hj)).trans (Frame.of_below (S := S) hb4) (fun j hj => .inl hj))).grown hg5 (fun k hk => .inr (by have := (HownT4.out.lt k hk).1; omega))
  refine ⟨A5, c5, rfl, own_mono hown5 hz1, ?_, hfr⟩
  exact (hK3.below hb4).keep hfin.size (fun k hk => hfin.block k (hS1 k hk))
theorem Encode_all (p : Int) (x : Sec) (A : Option Addr) (c : Nat) (hK : SuitP w u K S) (h : rightS p x = 0) (hb : BytesAt w A x.body.length x.body) (hU : roomK K + 1 ≤ 1000000) :
    Calls Try.prog 66 #[.pointer (some ⟨u, 0, none⟩), .int .i64 p, secV x A c] w fun e w' => ∃ A' c', e = .returned (.tuple #[.slice A' 512 c', .int .i64 0]) ∧
      w'.ownsRow w.heap.size 5 1 (.slice A' 512 c') 512 (bytesV (encK K p x).1) ∧ SuitP w' u (encK K p x).2 S ∧ Frame S w w' := by
  obtain ⟨k, l, q, g, b⟩ := x
  obtain ⟨h1, h2, h3, h4, h5, h6, h7⟩ := rightS_ok.1 h
  simp only at h1 h5
  obtain ⟨k, rfl⟩ := Int.eq_ofNat_of_zero_le (show 0 ≤ k by omega)
  obtain ⟨q, rfl⟩ := Int.eq_ofNat_of_zero_le h5
  obtain ⟨p, rfl⟩ := Int.eq_ofNat_of_zero_le h3
  exact Encode_yes p k q l g b A c hK h hb hU

end

end Go.Proofs.Ytdjndeleafhglaa
namespace Go.Proofs.Ytdjndeleafhglaa
open Go.RowKit

theorem bytesV_take' (l : List UInt8) (n : Nat) : bytesV (l.take n) = (bytesV l).take n := by simp [bytesV, List.map_take]
theorem bytesV_drop' (l : List UInt8) (n : Nat) : bytesV (l.drop n) = (bytesV l).drop n := by simp [bytesV, List.map_drop]
theorem range_part {w : World} {g o : Nat} {l : List UInt8} (h : w.rangeAt g o (bytesV l)) (i m : Nat) : w.rangeAt g (o + i) (bytesV ((l.drop i).take m)) := fun j v hv => by
  rw [bytesV_take', bytesV_drop', List.getElem?_take] at hv
  split at hv
  · rw [List.getElem?_drop] at hv
    have := h (i + j) v hv
    rw [Nat.add_assoc]; exact this
  · cases hv
theorem bytes_part {w : World} {g o n : Nat} {l : List UInt8} (h : BytesAt w (some ⟨g, o, none⟩) n l) (i m : Nat) (him : i + m ≤ n) : BytesAt w (some ⟨g, o + i, none⟩) m ((l.drop i).take m) :=
  ⟨by rw [List.length_take, List.length_drop, h.len]; omega, fun hm => by
    obtain ⟨g', o', he, hr⟩ := h.at_ (by omega)
    cases he
    exact ⟨g, o + i, rfl, range_part hr i m⟩⟩

set_option maxRecDepth 100000 in
set_option maxHeartbeats 1000000 in
theorem take_any (t g o n c k : Nat) (l : List UInt8) (w : World) (ht : w.heap[t]? = some (.cells #[.slice (some ⟨g, o, none⟩) n c] 244 (0, 0))) (hb : BytesAt w (some ⟨g, o, none⟩) n l) (h1 : 1 ≤ k) (h8 : k ≤ 8) (hk : k < n) (hc : n ≤ c) :
    Calls Try.prog 180 #[.pointer (some ⟨t, 0, none⟩), .int .i64 (k : Int)] w fun e w' => e = .returned (.int .u64 (getB (l.take k) : Int)) ∧
      w'.heap[t]? = some (.cells #[.slice (some ⟨g, o + k, none⟩) (n - k) (c - k)] 244 (0, 0)) ∧ Frame (fun j => j = t) w w' := by
  obtain ⟨hx0, hf0⟩ := cell_of_one ht
  have hb2 := bytes_part hb 0 k (by omega)
  rw [List.drop_zero, Nat.add_zero] at hb2
  have h3 := one_set ht (.slice (some ⟨g, o + k, none⟩) (n - k) (c - k))
  have hkc : ¬ (c = k) := by omega
  have Hb2 := Lib.hid hb2; clear hb2
  have H3 := Lib.hid h3; clear h3
  have Hb := Lib.hid hb; clear hb
  have Ht := Lib.hid ht; clear ht
  go_enter Try.func180, Try.ntmps180
  go_wp2_with fail
  refine (NGet_any (some ⟨g, o, none⟩) k k _ w Hb2.out (by omega) h8).mono ?_
  rintro e w1 ⟨rfl, rfl⟩
  go_wp2_with fail
  go_ret
  exact ⟨rfl, H3.out, Frame.setCell (S := fun j => j = t) (Frame.refl _ w) (.inl rfl) _⟩

theorem getB_bd (l : List UInt8) (k : Nat) (n : Nat) (hk : 256 ^ k ≤ n) : getB (l.take k) < n := by
  have h1 := getB_lt (l.take k)
  have h2 : 256 ^ (l.take k).length ≤ 256 ^ k := Nat.pow_le_pow_right (by omega) (List.length_take_le _ _)
  omega
theorem bytes_tail {w : World} {g o n : Nat} {l : List UInt8} (h : BytesAt w (some ⟨g, o, none⟩) n l) (i m : Nat) (him : i + m = n) : BytesAt w (some ⟨g, o + i, none⟩) m (l.drop i) := by
  have := bytes_part h i m (by omega)
  rwa [List.take_of_length_le (by rw [List.length_drop, h.len]; omega)] at this
/-- One more number is taken off the bytes, so many of them being gone. -/
theorem take_at (t g o n c k i n2 c2 i2 v : Nat) (l : List UInt8) (w : World) (hv : getB ((l.drop i).take k) = v) (ht : w.heap[t]? = some (.cells #[.slice (some ⟨g, o + i, none⟩) n c] 244 (0, 0))) (hb : BytesAt w (some ⟨g, o, none⟩) 512 l) (h1 : 1 ≤ k) (h8 : k ≤ 8) (hk : k < n) (hc : n ≤ c)
    (hi : i + n = 512) (e1 : n2 = n - k) (e2 : c2 = c - k) (e3 : i2 = i + k) :
    Calls Try.prog 180 #[.pointer (some ⟨t, 0, none⟩), .int .i64 (k : Int)] w fun e w' => e = .returned (.int .u64 (v : Int)) ∧
      w'.heap[t]? = some (.cells #[.slice (some ⟨g, o + i2, none⟩) n2 c2] 244 (0, 0)) ∧ Frame (fun j => j = t) w w' := by
  subst e1 e2 e3 hv
  rw [← Nat.add_assoc]
  exact take_any t g (o + i) n c k (l.drop i) w ht (bytes_tail hb i n hi) h1 h8 hk hc

/-- A clone of bytes that are somewhere. -/
theorem Clone_at {g : Nat} (o n c : Nat) (l : List UInt8) (w : World) (hb : BytesAt w (some ⟨g, o, none⟩) n l) (hn : n ≤ 1000000) :
    Calls Try.prog 135 #[.slice (some ⟨g, o, none⟩) n c] w fun e w' => ∃ A' c', e = .returned (.slice A' n c') ∧ w'.ownsRow w.heap.size 5 1 (.slice A' n c') n (bytesV l) ∧ Below w.heap.size w w' := by
  have hr : w.rangeAt g o (bytesV l) := fun j v hv => by
    have hj : j < n := by have := (List.getElem?_eq_some_iff.1 hv).1; rw [bytesV_length, hb.len] at this; exact this
    obtain ⟨g', o', he, hr⟩ := hb.at_ (by omega)
    cases he
    exact hr j v hv
  refine (Clone_any g o n c (bytesV l) w (by rw [bytesV_length, hb.len]) hn (bytesV_one l) hr).mono fun e w' ⟨v, he, ho, hbl⟩ => ?_
  obtain ⟨A', c', rfl⟩ := own_form ho
  exact ⟨A', c', he, ho, hbl⟩

/-- What read answers. -/
def ReadPost (l : List UInt8) (w : World) (e : Ending) (w' : World) : Prop :=
  (readS l = none ∧ e = .returned (.tuple #[secV secZero none 0, .bool false]) ∧ Below w.heap.size w w') ∨
  (∃ x A c', readS l = some x ∧ e = .returned (.tuple #[secV x A c', .bool true]) ∧ w'.ownsRow w.heap.size 5 1 (.slice A x.body.length c') x.body.length (bytesV x.body) ∧ Below w.heap.size w w')

set_option maxRecDepth 100000 in
set_option maxHeartbeats 2000000 in
theorem read_any (g o d : Nat) (l : List UInt8) (w : World) (hb : BytesAt w (some ⟨g, o, none⟩) 512 l) (hd : 487 ≤ d) :
    Calls Try.prog 138 #[.slice (some ⟨g, o, none⟩) 512 (d + 25)] w fun e w' => ReadPost l w e w' := by
  have hlen := hb.len
  obtain ⟨n1, e1⟩ : ∃ n1, getB ((l.drop 0).take 1) = n1 := ⟨_, rfl⟩
  obtain ⟨n2, e2⟩ : ∃ n2, getB ((l.drop 1).take 2) = n2 := ⟨_, rfl⟩
  obtain ⟨n3, e3⟩ : ∃ n3, getB ((l.drop 3).take 8) = n3 := ⟨_, rfl⟩
  obtain ⟨n4, e4⟩ : ∃ n4, getB ((l.drop 11).take 4) = n4 := ⟨_, rfl⟩
  obtain ⟨n5, e5⟩ : ∃ n5, getB ((l.drop 15).take 8) = n5 := ⟨_, rfl⟩
  obtain ⟨n6, e6⟩ : ∃ n6, getB ((l.drop 23).take 2) = n6 := ⟨_, rfl⟩
  have b1 : n1 < 256 := by rw [← e1]; exact getB_bd _ _ _ (by decide)
  have b4 : n4 < 4294967296 := by rw [← e4]; exact getB_bd _ _ _ (by decide)
  have b6 : n6 < 65536 := by rw [← e6]; exact getB_bd _ _ _ (by decide)
  have hrd : readS l = if 479 < n6 then none else some ⟨(n1 : Int), n3, (n4 : Int), n5, (l.drop 25).take n6⟩ := by
    unfold readS
    rw [e6, e3, e4, e5]
    rw [List.drop_zero] at e1
    rw [e1]
  have E1 := Lib.hid e1; clear e1
  have E2 := Lib.hid e2; clear e2
  have E3 := Lib.hid e3; clear e3
  have E4 := Lib.hid e4; clear e4
  have E5 := Lib.hid e5; clear e5
  have E6 := Lib.hid e6; clear e6
  have Hrd := Lib.hid hrd; clear hrd
  have Hby : Hid (∀ W, Below w.heap.size w W → BytesAt W (some ⟨g, o, none⟩) 512 l) := Lib.hid fun W h => hb.below h
  have Hlen := Lib.hid hlen; clear hlen hb
  go_enter Try.func138, Try.ntmps138
  go_wp2_with fail
  have hB0 : Below w.heap.size w ((w.alloc (.cells #[.int .i64 0, .int .u64 0, .int .i64 0, .int .u64 0, .slice none 0 0] 54)).alloc (.cells #[.slice (some ⟨g, o, none⟩) 512 (d + 25)] 244)) := Bnew (Bbox _ _) _
  have hX0 : ((w.alloc (.cells #[.int .i64 0, .int .u64 0, .int .i64 0, .int .u64 0, .slice none 0 0] 54)).alloc (.cells #[.slice (some ⟨g, o, none⟩) 512 (d + 25)] 244)).heap[w.heap.size]? = some (.cells #[.int .i64 0, .int .u64 0, .int .i64 0, .int .u64 0, .slice none 0 0] 54 (0, 0)) := by
    rw [Below.heap_alloc _ _ _ (by simp)]; exact heap_alloc_new w _
  have hT0 : ((w.alloc (.cells #[.int .i64 0, .int .u64 0, .int .i64 0, .int .u64 0, .slice none 0 0] 54)).alloc (.cells #[.slice (some ⟨g, o, none⟩) 512 (d + 25)] 244)).heap[w.heap.size + 1]? = some (.cells #[.slice (some ⟨g, o + 0, none⟩) 512 (d + 25)] 244 (0, 0)) := by
    have := heap_alloc_new (w.alloc (.cells #[.int .i64 0, .int .u64 0, .int .i64 0, .int .u64 0, .slice none 0 0] 54)) (.cells #[.slice (some ⟨g, o, none⟩) 512 (d + 25)] 244)
    simpa using this
  generalize (w.alloc (.cells #[.int .i64 0, .int .u64 0, .int .i64 0, .int .u64 0, .slice none 0 0] 54)).alloc (.cells #[.slice (some ⟨g, o, none⟩) 512 (d + 25)] 244) = W0 at hB0 hX0 hT0 ⊢
  have HX0 := Lib.hid hX0; clear hX0
  refine (take_at (w.heap.size + 1) g o 512 (d + 25) 1 0 511 (d + 24) 1 n1 l _ E1.out hT0 (Hby.out _ hB0) (by decide) (by decide) (by decide) (by omega) (by decide) (by decide) (by omega) (by decide)).mono ?_
  rintro e W1 ⟨rfl, hT1, hf1⟩
  have hlx1 := blk_lt HX0.out
  have hlt1 := blk_lt hT0
  have hB1 := hB0.trans (hf1.own (B := w.heap.size) (by omega) (by omega))
  have hX1 := (hf1.block w.heap.size hlx1 (by omega)).trans HX0.out
  have HX1 := Lib.hid hX1
  clear hf1 hT0 hB0
  obtain ⟨x0, x1, x2, x3, x4, xf⟩ := cells5 hX1
  clear hX1
  go_wp2_with fail
  have hXs : (W1.setCell ⟨w.heap.size, 0, none⟩ (.int .i64 (n1 : Int))).heap[w.heap.size]? = some (.cells #[.int .i64 (n1 : Int), .int .u64 0, .int .i64 0, .int .u64 0, .slice none 0 0] 54 (0, 0)) := (blk_set HX1.out 0 (.int .i64 (n1 : Int)))
  have hTs : (W1.setCell ⟨w.heap.size, 0, none⟩ (.int .i64 (n1 : Int))).heap[w.heap.size + 1]? = _ := ((Below.heap_setCell _ ⟨w.heap.size, 0, none⟩ (.int .i64 (n1 : Int)) _ (by simp)).trans hT1)
  have hBs : Below w.heap.size w (W1.setCell ⟨w.heap.size, 0, none⟩ (.int .i64 (n1 : Int))) := (hB1.setCell (p := ⟨w.heap.size, 0, none⟩) (Nat.le_refl _) (.int .i64 (n1 : Int)))
  clear x0 x1 x2 x3 x4 xf hT1 hB1
  generalize (W1.setCell ⟨w.heap.size, 0, none⟩ (.int .i64 (n1 : Int))) = V10 at hXs hTs hBs ⊢
  have HX10 := Lib.hid hXs; clear hXs
  have hT10 := hTs; clear hTs
  have hB10 := hBs; clear hBs
  refine (take_at (w.heap.size + 1) g o 511 (d + 24) 2 1 509 (d + 22) 3 n2 l _ E2.out hT10 (Hby.out _ hB10) (by decide) (by decide) (by decide) (by omega) (by decide) (by decide) (by omega) (by decide)).mono ?_
  rintro e W2 ⟨rfl, hT2, hf2⟩
  have hlx2 := blk_lt HX10.out
  have hlt2 := blk_lt hT10
  have hB2 := hB10.trans (hf2.own (B := w.heap.size) (by omega) (by omega))
  have hX2 := (hf2.block w.heap.size hlx2 (by omega)).trans HX10.out
  have HX2 := Lib.hid hX2
  clear hf2 hT10 hB10
  clear hX2
  go_wp2_with fail
  refine (take_at (w.heap.size + 1) g o 509 (d + 22) 8 3 501 (d + 14) 11 n3 l _ E3.out hT2 (Hby.out _ hB2) (by decide) (by decide) (by decide) (by omega) (by decide) (by decide) (by omega) (by decide)).mono ?_
  rintro e W3 ⟨rfl, hT3, hf3⟩
  have hlx3 := blk_lt HX2.out
  have hlt3 := blk_lt hT2
  have hB3 := hB2.trans (hf3.own (B := w.heap.size) (by omega) (by omega))
  have hX3 := (hf3.block w.heap.size hlx3 (by omega)).trans HX2.out
  have HX3 := Lib.hid hX3
  clear hf3 hT2 hB2
  clear hX3
  go_wp2_with fail
  refine (take_at (w.heap.size + 1) g o 501 (d + 14) 4 11 497 (d + 10) 15 n4 l _ E4.out hT3 (Hby.out _ hB3) (by decide) (by decide) (by decide) (by omega) (by decide) (by decide) (by omega) (by decide)).mono ?_
  rintro e W4 ⟨rfl, hT4, hf4⟩
  have hlx4 := blk_lt HX3.out
  have hlt4 := blk_lt hT3
  have hB4 := hB3.trans (hf4.own (B := w.heap.size) (by omega) (by omega))
  have hX4 := (hf4.block w.heap.size hlx4 (by omega)).trans HX3.out
  have HX4 := Lib.hid hX4
  clear hf4 hT3 hB3
  clear hX4
  go_wp2_with fail
  refine (take_at (w.heap.size + 1) g o 497 (d + 10) 8 15 489 (d + 2) 23 n5 l _ E5.out hT4 (Hby.out _ hB4) (by decide) (by decide) (by decide) (by omega) (by decide) (by decide) (by omega) (by decide)).mono ?_
  rintro e W5 ⟨rfl, hT5, hf5⟩
  have hlx5 := blk_lt HX4.out
  have hlt5 := blk_lt hT4
  have hB5 := hB4.trans (hf5.own (B := w.heap.size) (by omega) (by omega))
  have hX5 := (hf5.block w.heap.size hlx5 (by omega)).trans HX4.out
  have HX5 := Lib.hid hX5
  clear hf5 hT4 hB4
  obtain ⟨x0, x1, x2, x3, x4, xf⟩ := cells5 hX5
  clear hX5
  go_wp2_with fail
  have hXs : (((W5.setCell ⟨w.heap.size, 1, none⟩ (.int .u64 (n3 : Int))).setCell ⟨w.heap.size, 2, none⟩ (.int .i64 (n4 : Int))).setCell ⟨w.heap.size, 3, none⟩ (.int .u64 (n5 : Int))).heap[w.heap.size]? = some (.cells #[.int .i64 (n1 : Int), .int .u64 (n3 : Int), .int .i64 (n4 : Int), .int .u64 (n5 : Int), .slice none 0 0] 54 (0, 0)) := (blk_set (blk_set (blk_set HX5.out 1 (.int .u64 (n3 : Int))) 2 (.int .i64 (n4 : Int))) 3 (.int .u64 (n5 : Int)))
  have hTs : (((W5.setCell ⟨w.heap.size, 1, none⟩ (.int .u64 (n3 : Int))).setCell ⟨w.heap.size, 2, none⟩ (.int .i64 (n4 : Int))).setCell ⟨w.heap.size, 3, none⟩ (.int .u64 (n5 : Int))).heap[w.heap.size + 1]? = _ := ((Below.heap_setCell _ ⟨w.heap.size, 3, none⟩ (.int .u64 (n5 : Int)) _ (by simp)).trans ((Below.heap_setCell _ ⟨w.heap.size, 2, none⟩ (.int .i64 (n4 : Int)) _ (by simp)).trans ((Below.heap_setCell _ ⟨w.heap.size, 1, none⟩ (.int .u64 (n3 : Int)) _ (by simp)).trans hT5)))
  have hBs : Below w.heap.size w (((W5.setCell ⟨w.heap.size, 1, none⟩ (.int .u64 (n3 : Int))).setCell ⟨w.heap.size, 2, none⟩ (.int .i64 (n4 : Int))).setCell ⟨w.heap.size, 3, none⟩ (.int .u64 (n5 : Int))) := (((hB5.setCell (p := ⟨w.heap.size, 1, none⟩) (Nat.le_refl _) (.int .u64 (n3 : Int))).setCell (p := ⟨w.heap.size, 2, none⟩) (Nat.le_refl _) (.int .i64 (n4 : Int))).setCell (p := ⟨w.heap.size, 3, none⟩) (Nat.le_refl _) (.int .u64 (n5 : Int)))
  clear x0 x1 x2 x3 x4 xf hT5 hB5
  generalize (((W5.setCell ⟨w.heap.size, 1, none⟩ (.int .u64 (n3 : Int))).setCell ⟨w.heap.size, 2, none⟩ (.int .i64 (n4 : Int))).setCell ⟨w.heap.size, 3, none⟩ (.int .u64 (n5 : Int))) = V11 at hXs hTs hBs ⊢
  have HX11 := Lib.hid hXs; clear hXs
  have hT11 := hTs; clear hTs
  have hB11 := hBs; clear hBs
  refine (take_at (w.heap.size + 1) g o 489 (d + 2) 2 23 487 d 25 n6 l _ E6.out hT11 (Hby.out _ hB11) (by decide) (by decide) (by decide) (by omega) (by decide) (by decide) (by omega) (by decide)).mono ?_
  rintro e W6 ⟨rfl, hT6, hf6⟩
  have hlx6 := blk_lt HX11.out
  have hlt6 := blk_lt hT11
  have hB6 := hB11.trans (hf6.own (B := w.heap.size) (by omega) (by omega))
  have hX6 := (hf6.block w.heap.size hlx6 (by omega)).trans HX11.out
  have HX6 := Lib.hid hX6
  clear hf6 hT11 hB11
  obtain ⟨y0, yf⟩ := cell_of_one hT6
  obtain ⟨x0, x1, x2, x3, x4, xf⟩ := cells5 hX6
  clear hX6 hT6
  by_cases hbig : 479 < n6
  · have hbi : (479 : Int) < (n6 : Int) := by omega
    rw [if_pos hbig] at Hrd
    go_wp2_with fail
    have hXs : (((((W6.setCell ⟨w.heap.size, 0, none⟩ (.int .i64 0)).setCell ⟨w.heap.size, 1, none⟩ (.int .u64 0)).setCell ⟨w.heap.size, 2, none⟩ (.int .i64 0)).setCell ⟨w.heap.size, 3, none⟩ (.int .u64 0)).setCell ⟨w.heap.size, 4, none⟩ (.slice none 0 0)).heap[w.heap.size]? = some (.cells #[.int .i64 0, .int .u64 0, .int .i64 0, .int .u64 0, .slice none 0 0] 54 (0, 0)) :=
      blk_set (blk_set (blk_set (blk_set (blk_set HX6.out 0 _) 1 _) 2 _) 3 _) 4 _
    have hBs : Below w.heap.size w (((((W6.setCell ⟨w.heap.size, 0, none⟩ (.int .i64 0)).setCell ⟨w.heap.size, 1, none⟩ (.int .u64 0)).setCell ⟨w.heap.size, 2, none⟩ (.int .i64 0)).setCell ⟨w.heap.size, 3, none⟩ (.int .u64 0)).setCell ⟨w.heap.size, 4, none⟩ (.slice none 0 0)) :=
      ((((hB6.setCell (p := ⟨w.heap.size, 0, none⟩) (Nat.le_refl _) _).setCell (p := ⟨w.heap.size, 1, none⟩) (Nat.le_refl _) _).setCell (p := ⟨w.heap.size, 2, none⟩) (Nat.le_refl _) _).setCell (p := ⟨w.heap.size, 3, none⟩) (Nat.le_refl _) _).setCell (p := ⟨w.heap.size, 4, none⟩) (Nat.le_refl _) _
    generalize ((((W6.setCell ⟨w.heap.size, 0, none⟩ (.int .i64 0)).setCell ⟨w.heap.size, 1, none⟩ (.int .u64 0)).setCell ⟨w.heap.size, 2, none⟩ (.int .i64 0)).setCell ⟨w.heap.size, 3, none⟩ (.int .u64 0)).setCell ⟨w.heap.size, 4, none⟩ (.slice none 0 0) = V at hXs hBs ⊢
    obtain ⟨z0, z1, z2, z3, z4, zf⟩ := cells5 hXs
    refine bodyPost_ret (v := .tuple #[.agg #[.int .i64 0, .int .u64 0, .int .i64 0, .int .u64 0, .slice none 0 0], .bool false]) ?_ rfl (.inl ⟨Hrd.out, rfl, hBs⟩)
    simp [results, Try.results138, go_sem, z0, z1, z2, z3, z4]
  · have hbi : ¬ (479 : Int) < (n6 : Int) := by omega
    rw [if_neg hbig] at Hrd
    have hpart := bytes_part (Hby.out _ hB6) 25 n6 (by omega)
    have hlp := hpart.len
    go_wp2_with fail
    refine (Clone_at (o + 25) n6 d _ W6 hpart (by omega)).mono ?_
    rintro e W7 ⟨A7, c7, rfl, hown7, hb7⟩
    have hX7 := (hb7.block _ (blk_lt HX6.out)).trans HX6.out
    have hB7 := Bthen hB6 hb7
    have hz6 := hB6.size
    obtain ⟨x0, x1, x2, x3, x4, xf⟩ := cells5 hX7
    have HX7 := Lib.hid hX7; clear hX7
    have Hown7 := Lib.hid hown7; clear hown7
    go_wp2_with fail
    have hXs : ((((((W7.setCell ⟨w.heap.size, 4, none⟩ (.slice A7 n6 c7)).setCell ⟨w.heap.size, 0, none⟩ (.int .i64 (n1 : Int))).setCell ⟨w.heap.size, 1, none⟩ (.int .u64 (n3 : Int))).setCell ⟨w.heap.size, 2, none⟩ (.int .i64 (n4 : Int))).setCell ⟨w.heap.size, 3, none⟩ (.int .u64 (n5 : Int))).setCell ⟨w.heap.size, 4, none⟩ (.slice A7 n6 c7)).heap[w.heap.size]? = some (.cells #[.int .i64 (n1 : Int), .int .u64 (n3 : Int), .int .i64 (n4 : Int), .int .u64 (n5 : Int), .slice A7 n6 c7] 54 (0, 0)) :=
      blk_set (blk_set (blk_set (blk_set (blk_set (blk_set HX7.out 4 _) 0 _) 1 _) 2 _) 3 _) 4 _
    have hFs : Frame (fun k => k = w.heap.size) W7 ((((((W7.setCell ⟨w.heap.size, 4, none⟩ (.slice A7 n6 c7)).setCell ⟨w.heap.size, 0, none⟩ (.int .i64 (n1 : Int))).setCell ⟨w.heap.size, 1, none⟩ (.int .u64 (n3 : Int))).setCell ⟨w.heap.size, 2, none⟩ (.int .i64 (n4 : Int))).setCell ⟨w.heap.size, 3, none⟩ (.int .u64 (n5 : Int))).setCell ⟨w.heap.size, 4, none⟩ (.slice A7 n6 c7)) :=
      Frame.setCell (Frame.setCell (Frame.setCell (Frame.setCell (Frame.setCell (Frame.setCell (S := fun k => k = w.heap.size) (Frame.refl _ W7) (.inl rfl) _) (.inl rfl) _) (.inl rfl) _) (.inl rfl) _) (.inl rfl) _) (.inl rfl) _
    generalize (((((W7.setCell ⟨w.heap.size, 4, none⟩ (.slice A7 n6 c7)).setCell ⟨w.heap.size, 0, none⟩ (.int .i64 (n1 : Int))).setCell ⟨w.heap.size, 1, none⟩ (.int .u64 (n3 : Int))).setCell ⟨w.heap.size, 2, none⟩ (.int .i64 (n4 : Int))).setCell ⟨w.heap.size, 3, none⟩ (.int .u64 (n5 : Int))).setCell ⟨w.heap.size, 4, none⟩ (.slice A7 n6 c7) = V at hXs hFs ⊢
    have hlt := blk_lt HX6.out
    have hownV := own_frame Hown7.out hFs (fun k hk => by omega)
    have hBV := hB7.trans (hFs.own (B := w.heap.size) (Nat.le_refl _) hB7.size)
    obtain ⟨z0, z1, z2, z3, z4, zf⟩ := cells5 hXs
    have hrd : readS l = some ⟨(n1 : Int), n3, (n4 : Int), n5, (l.drop 25).take n6⟩ := Hrd.out
    refine bodyPost_ret (v := .tuple #[.agg #[.int .i64 (n1 : Int), .int .u64 (n3 : Int), .int .i64 (n4 : Int), .int .u64 (n5 : Int), .slice A7 n6 c7], .bool true]) ?_ rfl (.inr ⟨_, A7, c7, hrd, ?_, ?_, hBV⟩)
    · simp [results, Try.results138, go_sem, z0, z1, z2, z3, z4]
    · unfold secV; simp only [hlp]
    · simp only [hlp]; exact own_mono hownV hz6

end Go.Proofs.Ytdjndeleafhglaa
namespace Go.Proofs.Ytdjndeleafhglaa
open Go.RowKit

/-- What Decode answers. -/
def DecPost (r : Int × Sec) (w : World) (e : Ending) (w' : World) : Prop :=
  ∃ A c', e = .returned (.tuple #[secV r.2 A c', .int .i64 r.1]) ∧ w'.ownsRow w.heap.size 5 1 (.slice A r.2.body.length c') r.2.body.length (bytesV r.2.body) ∧ Below w.heap.size w w'
theorem DecPost.zero {f : Int} {w w' : World} (hb : Below w.heap.size w w') : DecPost (f, secZero) w (.returned (.tuple #[.agg #[.int .i64 0, .int .u64 0, .int .i64 0, .int .u64 0, .slice none 0 0], .int .i64 f])) w' :=
  ⟨none, 0, rfl, World.ownsRow_nil _ _ _ _, hb⟩

section
variable {w : World} {u : Nat} {K : SU} {S : Nat → Prop}
set_option maxRecDepth 100000 in
theorem Decode_nil (p : Int) (A : Option Addr) (n c : Nat) (w : World) :
    Calls Try.prog 58 #[.pointer none, .int .i64 p, .slice A n c] w fun e w' => DecPost (1, secZero) w e w' := by
  go_enter Try.func58, Try.ntmps58
  go_wp2_with fail
  refine (none_nil _).mono ?_; rintro e w1 ⟨rfl, rfl⟩
  go_wp2_with fail
  refine bodyPost_ret (v := .tuple #[.agg #[.int .i64 0, .int .u64 0, .int .i64 0, .int .u64 0, .slice none 0 0], .int .i64 1]) ?_ rfl (DecPost.zero ?_)
  · simp [results, Try.results58, go_sem]
  · ((repeat (first | (with_reducible exact Bnil _) | (with_reducible assumption) | (with_reducible refine Bset ?_ ?_ _) | (with_reducible refine Bnew ?_ _) | (with_reducible refine Bdrew ?_) | (with_reducible refine Bthen ?_ (by assumption)))); all_goals (simp; try omega))

set_option maxRecDepth 100000 in
theorem Decode_form (p : Int) (A : Option Addr) (n c : Nat) (w : World) (u : Nat) (h : n ≠ 512) :
    Calls Try.prog 58 #[.pointer (some ⟨u, 0, none⟩), .int .i64 p, .slice A n c] w fun e w' => DecPost (4, secZero) w e w' := by
  have hnb : ((n : Int) != 512) = true := by simp; omega
  go_enter Try.func58, Try.ntmps58
  go_wp2_with fail
  refine (none_any _ _).mono ?_; rintro e w1 ⟨rfl, rfl⟩
  go_wp2_with fail
  refine bodyPost_ret (v := .tuple #[.agg #[.int .i64 0, .int .u64 0, .int .i64 0, .int .u64 0, .slice none 0 0], .int .i64 4]) ?_ rfl (DecPost.zero ?_)
  · simp [results, Try.results58, go_sem]
  · ((repeat (first | (with_reducible exact Bnil _) | (with_reducible assumption) | (with_reducible refine Bset ?_ ?_ _) | (with_reducible refine Bnew ?_ _) | (with_reducible refine Bdrew ?_) | (with_reducible refine Bthen ?_ (by assumption)))); all_goals (simp; try omega))

theorem five_set {w : World} {X : Nat} {a b c d e : Value} {t : TypeId} (h : w.heap[X]? = some (.cells #[a, b, c, d, e] t (0, 0))) (v0 v1 v2 v3 v4 : Value) :
    ∃ V, ((((w.setCell ⟨X, 0, none⟩ v0).setCell ⟨X, 1, none⟩ v1).setCell ⟨X, 2, none⟩ v2).setCell ⟨X, 3, none⟩ v3).setCell ⟨X, 4, none⟩ v4 = V ∧ V.heap[X]? = some (.cells #[v0, v1, v2, v3, v4] t (0, 0)) ∧ Frame (fun k => k = X) w V :=
  ⟨_, rfl, blk_set (blk_set (blk_set (blk_set (blk_set h 0 _) 1 _) 2 _) 3 _) 4 _,
    Frame.setCell (Frame.setCell (Frame.setCell (Frame.setCell (Frame.setCell (S := fun k => k = X) (Frame.refl _ w) (.inl rfl) _) (.inl rfl) _) (.inl rfl) _) (.inl rfl) _) (.inl rfl) _⟩
theorem zero_cells {w w1 : World} (hb : Below (w.heap.size + 1) (w.alloc (.cells #[.int .i64 0, .int .u64 0, .int .i64 0, .int .u64 0, .slice none 0 0] 54)) w1) :
    w1.heap[w.heap.size]? = some (.cells #[.int .i64 0, .int .u64 0, .int .i64 0, .int .u64 0, .slice none 0 0] 54 (0, 0)) :=
  (hb.block _ (by omega)).trans (heap_alloc_new w _)

set_option maxRecDepth 100000 in
set_option maxHeartbeats 1000000 in
theorem Decode_blank (p : Int) (g o c : Nat) (l : List UInt8) (u : Nat) (w : World) (hb : BytesAt w (some ⟨g, o, none⟩) 512 l) (hc : 512 ≤ c) (hl : l = blankS) :
    Calls Try.prog 58 #[.pointer (some ⟨u, 0, none⟩), .int .i64 p, .slice (some ⟨g, o, none⟩) 512 c] w fun e w' => DecPost (7, secZero) w e w' := by
  have hd : decide (l = blankS) = true := by simpa using hl
  have Hb := Lib.hid hb; clear hb hl
  go_enter Try.func58, Try.ntmps58
  go_wp2_with fail
  refine (none_any _ _).mono ?_; rintro e w1 ⟨rfl, rfl⟩
  go_wp2_with fail
  refine (IsBlank_any (some ⟨g, o, none⟩) 512 c l _ (Hb.out.below (Bbox _ _)) hc (by decide)).mono ?_
  rintro e w1 ⟨rfl, hb1⟩
  rw [World.size_alloc] at hb1
  have hx := zero_cells hb1
  obtain ⟨z0, z1, z2, z3, z4, zf⟩ := cells5 hx
  have hB1 : Below w.heap.size w w1 := (Bbox w _).trans (hb1.mono (Nat.le_succ _))
  go_wp2_with fail
  obtain ⟨V, hV, hXs, hFs⟩ := five_set hx (.int .i64 0) (.int .u64 0) (.int .i64 0) (.int .u64 0) (.slice none 0 0)
  rw [hV]
  obtain ⟨y0, y1, y2, y3, y4, yf⟩ := cells5 hXs
  refine bodyPost_ret (v := .tuple #[.agg #[.int .i64 0, .int .u64 0, .int .i64 0, .int .u64 0, .slice none 0 0], .int .i64 7]) ?_ rfl (DecPost.zero (hB1.trans (hFs.own (Nat.le_refl _) hB1.size)))
  simp [results, Try.results58, go_sem, y0, y1, y2, y3, y4]

/-- The worlds of a region: x, the sector that was read, and the result's box lie where they lay. -/
theorem box_facts {W : World} {X : Nat} {a b c d e : Value} {t : TypeId} (h : W.heap[X]? = some (.cells #[a, b, c, d, e] t (0, 0))) :
    ∀ x : InS (BelowW W), x.w.cell? ⟨X, 0, none⟩ = some a ∧ x.w.cell? ⟨X, 1, none⟩ = some b ∧ x.w.cell? ⟨X, 2, none⟩ = some c ∧ x.w.cell? ⟨X, 3, none⟩ = some d ∧ x.w.cell? ⟨X, 4, none⟩ = some e := fun x => by
  obtain ⟨h0, h1, h2, h3, h4, _⟩ := cells5 h
  have hl := blk_lt h
  exact ⟨(inB_cell x hl).trans h0, (inB_cell x hl).trans h1, (inB_cell x hl).trans h2, (inB_cell x hl).trans h3, (inB_cell x hl).trans h4⟩

set_option maxRecDepth 100000 in
set_option maxHeartbeats 1000000 in
theorem Decode_none (p : Int) (g o d : Nat) (l : List UInt8) (u : Nat) (w : World) (hb : BytesAt w (some ⟨g, o, none⟩) 512 l) (hd : 487 ≤ d) (hl : l ≠ blankS) (hr : readS l = none) :
    Calls Try.prog 58 #[.pointer (some ⟨u, 0, none⟩), .int .i64 p, .slice (some ⟨g, o, none⟩) 512 (d + 25)] w fun e w' => DecPost (11, secZero) w e w' := by
  have hdb : decide (l = blankS) = false := by simpa using hl
  have Hb := Lib.hid hb; clear hb
  have Hr := Lib.hid hr; clear hr hl
  go_enter Try.func58, Try.ntmps58
  go_wp2_with fail
  refine (none_any _ _).mono ?_; rintro e w1 ⟨rfl, rfl⟩
  go_wp2_with fail
  refine (IsBlank_any (some ⟨g, o, none⟩) 512 (d + 25) l _ (Hb.out.below (Bbox _ _)) (by omega) (by decide)).mono ?_
  rintro e w1 ⟨rfl, hb1⟩
  rw [World.size_alloc] at hb1
  have hx := zero_cells hb1
  have hB1 : Below w.heap.size w w1 := (Bbox w _).trans (hb1.mono (Nat.le_succ _))
  go_wp2_with fail
  refine (read_any g o d l w1 (Hb.out.below hB1) hd).mono ?_
  rintro e w2 hp
  rcases hp with ⟨_, rfl, hb2⟩ | ⟨x, A, c', hs, _⟩
  case inr => rw [Hr.out] at hs; cases hs
  have hx2 := (hb2.block _ (blk_lt hx)).trans hx
  have hB2 := Bthen hB1 hb2
  unfold secV secZero
  go_wp2_with fail
  have hx3 := (Below.heap_alloc w2 (.cells #[.int .i64 0, .int .u64 0, .int .i64 0, .int .u64 0, .slice none 0 0] 54) _ (blk_lt hx2)).trans hx2
  have hB3 : Below w.heap.size w (w2.alloc (.cells #[.int .i64 0, .int .u64 0, .int .i64 0, .int .u64 0, .slice none 0 0] 54)) := Bnew hB2 _
  generalize w2.alloc (.cells #[.int .i64 0, .int .u64 0, .int .i64 0, .int .u64 0, .slice none 0 0] 54) = w3 at hx3 hB3 ⊢
  clear hx hx2 hb1 hb2
  refine wp_region_in (BelowW w3) [(0, true), (1, true), (2, true), (3, true), (4, true), (5, false), (6, true), (7, true), (8, true), (9, true), (10, true), (12, true), (13, true), (11, false), (14, false), (15, true), (16, true), (17, true), (18, true), (19, true), (20, true), (21, true), (22, true), (23, false), (24, true), (25, true)] (by kernel_rfl) (by kernel_rfl) (fun _ _ _ _ _ h => h) (inB_drew _) (fun hne => ?_)
  simp only [permOps, List.map_cons, List.map_nil, List.getD_cons_zero, List.getD_cons_succ]
  (repeat ((with_reducible refine wpPerm_F ?_); intro K hK; go_simp; refine hK _ _ ?_; clear hK K))
  (with_reducible refine wpPerm_G ?_); intro K K' hK hK'; go_simp
  (refine hK' _ _ ?_; clear hK hK' K K')
  (repeat ((with_reducible refine wpPerm_F ?_); intro K hK; go_simp; refine hK _ _ ?_; clear hK K))
  (with_reducible refine wpPerm_G ?_); intro K K' hK hK'; go_simp
  (refine hK' _ _ ?_; clear hK hK' K K')
  (with_reducible refine wpPerm_G ?_); intro K K' hK hK'; go_simp
  (refine hK' _ _ ?_; clear hK hK' K K')
  (repeat ((with_reducible refine wpPerm_F ?_); intro K hK; go_simp; refine hK _ _ ?_; clear hK K))
  (with_reducible refine wpPerm_G ?_); intro K K' hK hK'; go_simp
  (refine hK' _ _ ?_; clear hK hK' K K')
  (repeat ((with_reducible refine wpPerm_F ?_); intro K hK; go_simp; refine hK _ _ ?_; clear hK K))
  refine wpPerm_nil ?_
  obtain ⟨z0, z1, z2, z3, z4, zf⟩ := cells5 hx3
  go_wp2_with fail
  obtain ⟨V, hV, hXs, hFs⟩ := five_set hx3 (.int .i64 0) (.int .u64 0) (.int .i64 0) (.int .u64 0) (.slice none 0 0)
  rw [hV]
  obtain ⟨y0, y1, y2, y3, y4, yf⟩ := cells5 hXs
  refine bodyPost_ret (v := .tuple #[.agg #[.int .i64 0, .int .u64 0, .int .i64 0, .int .u64 0, .slice none 0 0], .int .i64 11]) ?_ rfl (DecPost.zero (hB3.trans (hFs.own (Nat.le_refl _) hB3.size)).drew)
  simp [results, Try.results58, go_sem, y0, y1, y2, y3, y4]

end
end Go.Proofs.Ytdjndeleafhglaa
namespace Go.Proofs.Ytdjndeleafhglaa
open Go.RowKit

section
variable {w : World} {u : Nat} {K : SU} {S : Nat → Prop}
set_option maxRecDepth 100000 in
set_option maxHeartbeats 2000000 in
theorem Decode_right (p : Int) (g o d : Nat) (l : List UInt8) (x : Sec) (hb : BytesAt w (some ⟨g, o, none⟩) 512 l) (hd : 487 ≤ d) (hl : l ≠ blankS) (hr : readS l = some x) (hri : rightS p x ≠ 0) :
    Calls Try.prog 58 #[.pointer (some ⟨u, 0, none⟩), .int .i64 p, .slice (some ⟨g, o, none⟩) 512 (d + 25)] w fun e w' => DecPost (11, secZero) w e w' := by
  have hdb : decide (l = blankS) = false := by simpa using hl
  have hd1 : (504 : Int) ≤ (d : Int) + 25 := by omega
  have hd2 : ¬ (d + 25 = 504) := by omega
  have hd3 : ¬ (d = 479) := by omega
  have hri0 : (rightS p x != 0) = true := by simpa using hri
  generalize hrs : rightS p x = rr at hri hri0
  have Hright : Hid (∀ (A : Option Addr) (c : Nat) W, Calls Try.prog 139 #[.int .i64 p, secV x A c] W fun e w' => e = .returned (.int .i64 rr) ∧ Below W.heap.size W w') := Lib.hid fun A c W => by rw [← hrs]; exact right_any p x A c W
  clear hrs hri
  have Hb := Lib.hid hb; clear hb
  have Hr := Lib.hid hr; clear hr hl
  go_enter Try.func58, Try.ntmps58
  go_wp2_with fail
  refine (none_any _ _).mono ?_; rintro e w1 ⟨rfl, rfl⟩
  go_wp2_with fail
  refine (IsBlank_any (some ⟨g, o, none⟩) 512 (d + 25) l _ (Hb.out.below (Bbox _ _)) (by omega) (by decide)).mono ?_
  rintro e w1 ⟨rfl, hb1⟩
  rw [World.size_alloc] at hb1
  have hx := zero_cells hb1
  have hB1 : Below w.heap.size w w1 := (Bbox w _).trans (hb1.mono (Nat.le_succ _))
  go_wp2_with fail
  refine (read_any g o d l w1 (Hb.out.below hB1) hd).mono ?_
  rintro e w2 hp
  rcases hp with ⟨hs, _⟩ | ⟨x', A, c', hs, rfl, hown2, hb2⟩
  case inl => rw [Hr.out] at hs; cases hs
  obtain rfl : x = x' := Option.some.inj (Hr.out.symm.trans hs)
  have hx2 := (hb2.block _ (blk_lt hx)).trans hx
  have hB2 := Bthen hB1 hb2
  have hz1 := hB1.size
  have hz1' := blk_lt hx
  obtain ⟨xk, xl, xq, xg, xb⟩ := x
  have Hright := Lib.hid Hright.out
  unfold secV at Hright
  unfold secV
  simp only at hown2
  simp only
  go_wp2_with fail
  have hx3 := (Below.heap_alloc w2 (.cells #[.int .i64 xk, .int .u64 (xl : Int), .int .i64 xq, .int .u64 (xg : Int), .slice A xb.length c'] 54) _ (blk_lt hx2)).trans hx2
  have hy3 := heap_alloc_new w2 (.cells #[.int .i64 xk, .int .u64 (xl : Int), .int .i64 xq, .int .u64 (xg : Int), .slice A xb.length c'] 54)
  have hb3 : Below w2.heap.size w2 (w2.alloc (.cells #[.int .i64 xk, .int .u64 (xl : Int), .int .i64 xq, .int .u64 (xg : Int), .slice A xb.length c'] 54)) := Bbox _ _
  generalize w2.alloc (.cells #[.int .i64 xk, .int .u64 (xl : Int), .int .i64 xq, .int .u64 (xg : Int), .slice A xb.length c'] 54) = w3 at hx3 hy3 hb3 ⊢
  have hB3 := Bthen hB2 hb3
  have hown3 := own_below hown2 hb3
  have hbody := BytesAt.own hown3
  have hbytes := Hb.out.below hB3
  clear hx hx2 hb1 hb2 hown2 hs
  have hbox := box_facts hy3
  have hbox0 := fun x => (hbox x).1
  have hbox1 := fun x => (hbox x).2.1
  have hbox2 := fun x => (hbox x).2.2.1
  have hbox3 := fun x => (hbox x).2.2.2.1
  have hbox4 := fun x => (hbox x).2.2.2.2
  have Hown3 := Lib.hid hown3
  have Hbody := Lib.hid hbody
  have Hbytes := Lib.hid hbytes
  clear hbox hown3 hbody hbytes
  refine wp_region_in (BelowW w3) [(0, true), (1, true), (2, true), (3, true), (4, true), (5, false), (6, true), (7, true), (8, true), (9, true), (10, true), (12, true), (13, true), (11, false), (14, false), (15, true), (16, true), (17, true), (18, true), (19, true), (20, true), (21, true), (22, true), (23, false), (24, true), (25, true)] (by kernel_rfl) (by kernel_rfl) (fun _ _ _ _ _ h => h) (inB_drew _) (fun hne => ?_)
  simp only [permOps, List.map_cons, List.map_nil, List.getD_cons_zero, List.getD_cons_succ]
  (repeat ((with_reducible refine wpPerm_F ?_); intro K hK; go_simp; refine hK _ _ ?_; clear hK K))
  (with_reducible refine wpPerm_G ?_); intro K K' hK hK'; go_simp
  refine (Hright.out A c' _).mono ?_
  rintro e y1 ⟨rfl, hy1⟩
  have hW1 : Below w3.heap.size w3 y1 := Bthen (Bdrew (Bnil w3)) hy1
  (refine hK _ _ ?_; clear hK hK' K K')
  refine ⟨inB_more hW1, ?_⟩
  (repeat ((with_reducible refine wpPerm_F ?_); intro K hK; go_simp; refine hK _ _ ?_; clear hK K))
  (with_reducible refine wpPerm_G ?_); intro K K' hK hK'; go_simp
  (refine hK' _ _ ?_; clear hK hK' K K')
  (repeat ((with_reducible refine wpPerm_F ?_); intro K hK; go_simp; refine hK _ _ ?_; clear hK K))
  (with_reducible refine wpPerm_G ?_); intro K K' hK hK'; go_simp
  (refine hK' _ _ ?_; clear hK hK' K K')
  (repeat ((with_reducible refine wpPerm_F ?_); intro K hK; go_simp; refine hK _ _ ?_; clear hK K))
  (with_reducible refine wpPerm_G ?_); intro K K' hK hK'; go_simp
  (refine hK' _ _ ?_; clear hK hK' K K')
  (repeat ((with_reducible refine wpPerm_F ?_); intro K hK; go_simp; refine hK _ _ ?_; clear hK K))
  refine wpPerm_nil ?_
  have hX := (hW1.block _ (blk_lt hx3)).trans hx3
  have hBf := hB3.trans (hW1.mono hB3.size)
  obtain ⟨z0, z1, z2, z3, z4, zf⟩ := cells5 hX
  clear hbox0 hbox1 hbox2 hbox3 hbox4
  go_wp2_with fail
  obtain ⟨V, hV, hXs, hFs⟩ := five_set hX (.int .i64 0) (.int .u64 0) (.int .i64 0) (.int .u64 0) (.slice none 0 0)
  rw [hV]
  obtain ⟨y0, y1', y2', y3', y4', yf⟩ := cells5 hXs
  refine bodyPost_ret (v := .tuple #[.agg #[.int .i64 0, .int .u64 0, .int .i64 0, .int .u64 0, .slice none 0 0], .int .i64 11]) ?_ rfl (DecPost.zero (hBf.trans (hFs.own (Nat.le_refl _) hBf.size)))
  simp [results, Try.results58, go_sem, y0, y1', y2', y3', y4']

set_option maxRecDepth 100000 in
set_option maxHeartbeats 2000000 in
theorem Decode_text (p : Int) (g o d : Nat) (l : List UInt8) (x : Sec) (hb : BytesAt w (some ⟨g, o, none⟩) 512 l) (hd : 487 ≤ d) (hl : l ≠ blankS) (hr : readS l = some x) (hri : rightS p x = 0) (hsm : textS p x ≠ l.take 504) :
    Calls Try.prog 58 #[.pointer (some ⟨u, 0, none⟩), .int .i64 p, .slice (some ⟨g, o, none⟩) 512 (d + 25)] w fun e w' => DecPost (11, secZero) w e w' := by
  have hdb : decide (l = blankS) = false := by simpa using hl
  have hd1 : (504 : Int) ≤ (d : Int) + 25 := by omega
  have hd2 : ¬ (d + 25 = 504) := by omega
  have hd3 : ¬ (d = 479) := by omega
  have Hright : Hid (∀ (A : Option Addr) (c : Nat) W, Calls Try.prog 139 #[.int .i64 p, secV x A c] W fun e w' => e = .returned (.int .i64 0) ∧ Below W.heap.size W w') := Lib.hid fun A c W => by rw [← hri]; exact right_any p x A c W
  have Hwr : Hid (∀ (A : Option Addr) (c : Nat) W, BytesAt W A x.body.length x.body → Calls Try.prog 141 #[.int .i64 p, secV x A c] W fun e w' => ∃ g', e = .returned (.slice (some ⟨g', 0, none⟩) 504 504) ∧
      w'.ownsRow W.heap.size 5 1 (.slice (some ⟨g', 0, none⟩) 504 504) 504 (bytesV (textS p x)) ∧ Below W.heap.size W w') := Lib.hid fun A c W hb => written_all p x A c W hri hb
  clear hri
  have Hsm : Hid (decide (textS p x = l.take 504) = false) := Lib.hid (by simpa using hsm)
  clear hsm
  have Hb := Lib.hid hb; clear hb
  have Hr := Lib.hid hr; clear hr hl
  go_enter Try.func58, Try.ntmps58
  go_wp2_with fail
  refine (none_any _ _).mono ?_; rintro e w1 ⟨rfl, rfl⟩
  go_wp2_with fail
  refine (IsBlank_any (some ⟨g, o, none⟩) 512 (d + 25) l _ (Hb.out.below (Bbox _ _)) (by omega) (by decide)).mono ?_
  rintro e w1 ⟨rfl, hb1⟩
  rw [World.size_alloc] at hb1
  have hx := zero_cells hb1
  have hB1 : Below w.heap.size w w1 := (Bbox w _).trans (hb1.mono (Nat.le_succ _))
  go_wp2_with fail
  refine (read_any g o d l w1 (Hb.out.below hB1) hd).mono ?_
  rintro e w2 hp
  rcases hp with ⟨hs, _⟩ | ⟨x', A, c', hs, rfl, hown2, hb2⟩
  case inl => rw [Hr.out] at hs; cases hs
  obtain rfl : x = x' := Option.some.inj (Hr.out.symm.trans hs)
  have hx2 := (hb2.block _ (blk_lt hx)).trans hx
  have hB2 := Bthen hB1 hb2
  have hz1 := hB1.size
  have hz1' := blk_lt hx
  obtain ⟨xk, xl, xq, xg, xb⟩ := x
  have Hright := Lib.hid Hright.out
  unfold secV at Hright Hwr
  unfold secV
  simp only at hown2
  simp only
  go_wp2_with fail
  have hx3 := (Below.heap_alloc w2 (.cells #[.int .i64 xk, .int .u64 (xl : Int), .int .i64 xq, .int .u64 (xg : Int), .slice A xb.length c'] 54) _ (blk_lt hx2)).trans hx2
  have hy3 := heap_alloc_new w2 (.cells #[.int .i64 xk, .int .u64 (xl : Int), .int .i64 xq, .int .u64 (xg : Int), .slice A xb.length c'] 54)
  have hb3 : Below w2.heap.size w2 (w2.alloc (.cells #[.int .i64 xk, .int .u64 (xl : Int), .int .i64 xq, .int .u64 (xg : Int), .slice A xb.length c'] 54)) := Bbox _ _
  generalize w2.alloc (.cells #[.int .i64 xk, .int .u64 (xl : Int), .int .i64 xq, .int .u64 (xg : Int), .slice A xb.length c'] 54) = w3 at hx3 hy3 hb3 ⊢
  have hB3 := Bthen hB2 hb3
  have hown3 := own_below hown2 hb3
  have hbody := BytesAt.own hown3
  have hbytes := Hb.out.below hB3
  clear hx hx2 hb1 hb2 hown2 hs
  have hbox := box_facts hy3
  have hbox0 := fun x => (hbox x).1
  have hbox1 := fun x => (hbox x).2.1
  have hbox2 := fun x => (hbox x).2.2.1
  have hbox3 := fun x => (hbox x).2.2.2.1
  have hbox4 := fun x => (hbox x).2.2.2.2
  have Hown3 := Lib.hid hown3
  have Hbody := Lib.hid hbody
  have Hbytes := Lib.hid hbytes
  clear hbox hown3 hbody hbytes
  refine wp_region_in (BelowW w3) [(0, true), (1, true), (2, true), (3, true), (4, true), (5, false), (6, true), (7, true), (8, true), (9, true), (10, true), (12, true), (13, true), (11, false), (14, false), (15, true), (16, true), (17, true), (18, true), (19, true), (20, true), (21, true), (22, true), (23, false), (24, true), (25, true)] (by kernel_rfl) (by kernel_rfl) (fun _ _ _ _ _ h => h) (inB_drew _) (fun hne => ?_)
  simp only [permOps, List.map_cons, List.map_nil, List.getD_cons_zero, List.getD_cons_succ]
  (repeat ((with_reducible refine wpPerm_F ?_); intro K hK; go_simp; refine hK _ _ ?_; clear hK K))
  (with_reducible refine wpPerm_G ?_); intro K K' hK hK'; go_simp
  refine (Hright.out A c' _).mono ?_
  rintro e y1 ⟨rfl, hy1⟩
  have hW1 : Below w3.heap.size w3 y1 := Bthen (Bdrew (Bnil w3)) hy1
  (refine hK _ _ ?_; clear hK hK' K K')
  refine ⟨inB_more hW1, ?_⟩
  (repeat ((with_reducible refine wpPerm_F ?_); intro K hK; go_simp; refine hK _ _ ?_; clear hK K))
  (with_reducible refine wpPerm_G ?_); intro K K' hK hK'; go_simp
  refine (Hwr.out A c' _ (Hbody.out.below hW1)).mono ?_
  rintro e y2 ⟨g2, rfl, hownT, hy2⟩
  have hW2 : Below w3.heap.size w3 y2 := Bthen hW1 hy2
  have HBT := Lib.hid (BytesAt.own hownT); clear hownT
  have Hb504 := Lib.hid (bytes_part (Hbytes.out.below hW2) 0 504 (by decide))
  (refine hK _ _ ?_; clear hK hK' K K')
  refine ⟨inB_more hW2, ?_⟩
  (repeat ((with_reducible refine wpPerm_F ?_); intro K hK; go_simp; refine hK _ _ ?_; clear hK K))
  (with_reducible refine wpPerm_G ?_); intro K K' hK hK'; go_simp
  refine (NSame_any (some ⟨g2, 0, none⟩) (some ⟨g, o, none⟩) 504 504 504 (d + 25) _ _ y2 HBT.out (by decide) Hb504.out (by omega) (by decide) (by decide)).mono ?_
  rintro e y3 ⟨rfl, hy3'⟩
  have hW3 : Below w3.heap.size w3 y3 := Bthen hW2 hy3'
  rw [List.drop_zero, Hsm.out]
  (refine hK _ _ ?_; clear hK hK' K K')
  refine ⟨inB_more hW3, ?_⟩
  (repeat ((with_reducible refine wpPerm_F ?_); intro K hK; go_simp; refine hK _ _ ?_; clear hK K))
  (with_reducible refine wpPerm_G ?_); intro K K' hK hK'; go_simp
  (refine hK' _ _ ?_; clear hK hK' K K')
  (repeat ((with_reducible refine wpPerm_F ?_); intro K hK; go_simp; refine hK _ _ ?_; clear hK K))
  refine wpPerm_nil ?_
  have hX := (hW3.block _ (blk_lt hx3)).trans hx3
  have hBf := hB3.trans (hW3.mono hB3.size)
  obtain ⟨z0, z1, z2, z3, z4, zf⟩ := cells5 hX
  clear hbox0 hbox1 hbox2 hbox3 hbox4
  go_wp2_with fail
  obtain ⟨V, hV, hXs, hFs⟩ := five_set hX (.int .i64 0) (.int .u64 0) (.int .i64 0) (.int .u64 0) (.slice none 0 0)
  rw [hV]
  obtain ⟨y0, y1', y2', y3', y4', yf⟩ := cells5 hXs
  refine bodyPost_ret (v := .tuple #[.agg #[.int .i64 0, .int .u64 0, .int .i64 0, .int .u64 0, .slice none 0 0], .int .i64 11]) ?_ rfl (DecPost.zero (hBf.trans (hFs.own (Nat.le_refl _) hBf.size)))
  simp [results, Try.results58, go_sem, y0, y1', y2', y3', y4']

set_option maxRecDepth 100000 in
set_option maxHeartbeats 2000000 in
theorem Decode_sum (p : Int) (g o d : Nat) (l : List UInt8) (x : Sec) (hK : SuitP w u K S) (hb : BytesAt w (some ⟨g, o, none⟩) 512 l) (hd : 487 ≤ d) (hl : l ≠ blankS) (hr : readS l = some x) (hri : rightS p x = 0) (hsm : textS p x = l.take 504) (hck : checkK K (l.take 504) (l.drop 504) = false) :
    Calls Try.prog 58 #[.pointer (some ⟨u, 0, none⟩), .int .i64 p, .slice (some ⟨g, o, none⟩) 512 (d + 25)] w fun e w' => DecPost (11, secZero) w e w' := by
  have hdb : decide (l = blankS) = false := by simpa using hl
  have hd1 : (504 : Int) ≤ (d : Int) + 25 := by omega
  have hd2 : ¬ (d + 25 = 504) := by omega
  have hd3 : ¬ (d = 479) := by omega
  have Hright : Hid (∀ (A : Option Addr) (c : Nat) W, Calls Try.prog 139 #[.int .i64 p, secV x A c] W fun e w' => e = .returned (.int .i64 0) ∧ Below W.heap.size W w') := Lib.hid fun A c W => by rw [← hri]; exact right_any p x A c W
  have Hwr : Hid (∀ (A : Option Addr) (c : Nat) W, BytesAt W A x.body.length x.body → Calls Try.prog 141 #[.int .i64 p, secV x A c] W fun e w' => ∃ g', e = .returned (.slice (some ⟨g', 0, none⟩) 504 504) ∧
      w'.ownsRow W.heap.size 5 1 (.slice (some ⟨g', 0, none⟩) 504 504) 504 (bytesV (textS p x)) ∧ Below W.heap.size W w') := Lib.hid fun A c W hb => written_all p x A c W hri hb
  clear hri
  have Hsm : Hid (decide (textS p x = l.take 504) = true) := Lib.hid (by simpa using hsm)
  clear hsm
  have Hck : Hid (checkK K (l.take 504) (l.drop 504) = false) := Lib.hid (by exact hck)
  have Hl8 : Hid ((l.drop 504).length ≤ 8) := Lib.hid (by rw [List.length_drop, hb.len]; decide)
  clear hck
  have Hb := Lib.hid hb; clear hb
  have Hr := Lib.hid hr; clear hr hl
  go_enter Try.func58, Try.ntmps58
  go_wp2_with fail
  refine (none_any _ _).mono ?_; rintro e w1 ⟨rfl, rfl⟩
  go_wp2_with fail
  refine (IsBlank_any (some ⟨g, o, none⟩) 512 (d + 25) l _ (Hb.out.below (Bbox _ _)) (by omega) (by decide)).mono ?_
  rintro e w1 ⟨rfl, hb1⟩
  rw [World.size_alloc] at hb1
  have hx := zero_cells hb1
  have hB1 : Below w.heap.size w w1 := (Bbox w _).trans (hb1.mono (Nat.le_succ _))
  go_wp2_with fail
  refine (read_any g o d l w1 (Hb.out.below hB1) hd).mono ?_
  rintro e w2 hp
  rcases hp with ⟨hs, _⟩ | ⟨x', A, c', hs, rfl, hown2, hb2⟩
  case inl => rw [Hr.out] at hs; cases hs
  obtain rfl : x = x' := Option.some.inj (Hr.out.symm.trans hs)
  have hx2 := (hb2.block _ (blk_lt hx)).trans hx
  have hB2 := Bthen hB1 hb2
  have hz1 := hB1.size
  have hz1' := blk_lt hx
  obtain ⟨xk, xl, xq, xg, xb⟩ := x
  have Hright := Lib.hid Hright.out
  unfold secV at Hright Hwr
  unfold secV
  simp only at hown2
  simp only
  go_wp2_with fail
  have hx3 := (Below.heap_alloc w2 (.cells #[.int .i64 xk, .int .u64 (xl : Int), .int .i64 xq, .int .u64 (xg : Int), .slice A xb.length c'] 54) _ (blk_lt hx2)).trans hx2
  have hy3 := heap_alloc_new w2 (.cells #[.int .i64 xk, .int .u64 (xl : Int), .int .i64 xq, .int .u64 (xg : Int), .slice A xb.length c'] 54)
  have hb3 : Below w2.heap.size w2 (w2.alloc (.cells #[.int .i64 xk, .int .u64 (xl : Int), .int .i64 xq, .int .u64 (xg : Int), .slice A xb.length c'] 54)) := Bbox _ _
  generalize w2.alloc (.cells #[.int .i64 xk, .int .u64 (xl : Int), .int .i64 xq, .int .u64 (xg : Int), .slice A xb.length c'] 54) = w3 at hx3 hy3 hb3 ⊢
  have hB3 := Bthen hB2 hb3
  have hown3 := own_below hown2 hb3
  have hbody := BytesAt.own hown3
  have hbytes := Hb.out.below hB3
  clear hx hx2 hb1 hb2 hown2 hs
  have hbox := box_facts hy3
  have hbox0 := fun x => (hbox x).1
  have hbox1 := fun x => (hbox x).2.1
  have hbox2 := fun x => (hbox x).2.2.1
  have hbox3 := fun x => (hbox x).2.2.2.1
  have hbox4 := fun x => (hbox x).2.2.2.2
  have Hown3 := Lib.hid hown3
  have Hbody := Lib.hid hbody
  have Hbytes := Lib.hid hbytes
  clear hbox hown3 hbody hbytes
  refine wp_region_in (BelowW w3) [(0, true), (1, true), (2, true), (3, true), (4, true), (5, false), (6, true), (7, true), (8, true), (9, true), (10, true), (12, true), (13, true), (11, false), (14, false), (15, true), (16, true), (17, true), (18, true), (19, true), (20, true), (21, true), (22, true), (23, false), (24, true), (25, true)] (by kernel_rfl) (by kernel_rfl) (fun _ _ _ _ _ h => h) (inB_drew _) (fun hne => ?_)
  simp only [permOps, List.map_cons, List.map_nil, List.getD_cons_zero, List.getD_cons_succ]
  (repeat ((with_reducible refine wpPerm_F ?_); intro K hK; go_simp; refine hK _ _ ?_; clear hK K))
  (with_reducible refine wpPerm_G ?_); intro K K' hK hK'; go_simp
  refine (Hright.out A c' _).mono ?_
  rintro e y1 ⟨rfl, hy1⟩
  have hW1 : Below w3.heap.size w3 y1 := Bthen (Bdrew (Bnil w3)) hy1
  (refine hK _ _ ?_; clear hK hK' K K')
  refine ⟨inB_more hW1, ?_⟩
  (repeat ((with_reducible refine wpPerm_F ?_); intro K hK; go_simp; refine hK _ _ ?_; clear hK K))
  (with_reducible refine wpPerm_G ?_); intro K K' hK hK'; go_simp
  refine (Hwr.out A c' _ (Hbody.out.below hW1)).mono ?_
  rintro e y2 ⟨g2, rfl, hownT, hy2⟩
  have hW2 : Below w3.heap.size w3 y2 := Bthen hW1 hy2
  have HBT := Lib.hid (BytesAt.own hownT); clear hownT
  have Hb504 := Lib.hid (bytes_part (Hbytes.out.below hW2) 0 504 (by decide))
  (refine hK _ _ ?_; clear hK hK' K K')
  refine ⟨inB_more hW2, ?_⟩
  (repeat ((with_reducible refine wpPerm_F ?_); intro K hK; go_simp; refine hK _ _ ?_; clear hK K))
  (with_reducible refine wpPerm_G ?_); intro K K' hK hK'; go_simp
  refine (NSame_any (some ⟨g2, 0, none⟩) (some ⟨g, o, none⟩) 504 504 504 (d + 25) _ _ y2 HBT.out (by decide) Hb504.out (by omega) (by decide) (by decide)).mono ?_
  rintro e y3 ⟨rfl, hy3'⟩
  have hW3 : Below w3.heap.size w3 y3 := Bthen hW2 hy3'
  rw [List.drop_zero, Hsm.out]
  (refine hK _ _ ?_; clear hK hK' K K')
  refine ⟨inB_more hW3, ?_⟩
  (repeat ((with_reducible refine wpPerm_F ?_); intro K hK; go_simp; refine hK _ _ ?_; clear hK K))
  have Hb8 := Lib.hid (bytes_part (Hbytes.out.below hW3) 504 8 (by decide))
  have Hb504b := Lib.hid (bytes_part (Hbytes.out.below hW3) 0 504 (by decide))
  have hKy := hK.below (hB3.trans (hW3.mono hB3.size))
  (with_reducible refine wpPerm_G ?_); intro K K' hK hK'; go_simp
  refine (Check_any (some ⟨g, o, none⟩) (some ⟨g, o + 504, none⟩) 504 (d + 25) 8 (d - 479) _ _ hKy Hb504b.out Hb8.out (by omega) (by decide) (by decide) (by decide)).mono ?_
  rintro e y4 ⟨rfl, hy4⟩
  have hW4 : Below w3.heap.size w3 y4 := Bthen hW3 hy4
  rw [List.drop_zero, List.take_of_length_le (l := l.drop 504) Hl8.out, Hck.out]
  (refine hK _ _ ?_; clear hK hK' K K')
  refine ⟨inB_more hW4, ?_⟩
  (repeat ((with_reducible refine wpPerm_F ?_); intro K hK; go_simp; refine hK _ _ ?_; clear hK K))
  refine wpPerm_nil ?_
  have hX := (hW4.block _ (blk_lt hx3)).trans hx3
  have hBf := hB3.trans (hW4.mono hB3.size)
  obtain ⟨z0, z1, z2, z3, z4, zf⟩ := cells5 hX
  clear hbox0 hbox1 hbox2 hbox3 hbox4
  go_wp2_with fail
  obtain ⟨V, hV, hXs, hFs⟩ := five_set hX (.int .i64 0) (.int .u64 0) (.int .i64 0) (.int .u64 0) (.slice none 0 0)
  rw [hV]
  obtain ⟨y0, y1', y2', y3', y4', yf⟩ := cells5 hXs
  refine bodyPost_ret (v := .tuple #[.agg #[.int .i64 0, .int .u64 0, .int .i64 0, .int .u64 0, .slice none 0 0], .int .i64 11]) ?_ rfl (DecPost.zero (hBf.trans (hFs.own (Nat.le_refl _) hBf.size)))
  simp [results, Try.results58, go_sem, y0, y1', y2', y3', y4']

set_option maxRecDepth 100000 in
set_option maxHeartbeats 2000000 in
theorem Decode_yes (p : Int) (g o d : Nat) (l : List UInt8) (x : Sec) (hK : SuitP w u K S) (hb : BytesAt w (some ⟨g, o, none⟩) 512 l) (hd : 487 ≤ d) (hl : l ≠ blankS) (hr : readS l = some x) (hri : rightS p x = 0) (hsm : textS p x = l.take 504) (hck : checkK K (l.take 504) (l.drop 504) = true) :
    Calls Try.prog 58 #[.pointer (some ⟨u, 0, none⟩), .int .i64 p, .slice (some ⟨g, o, none⟩) 512 (d + 25)] w fun e w' => DecPost (0, x) w e w' := by
  have hdb : decide (l = blankS) = false := by simpa using hl
  have hd1 : (504 : Int) ≤ (d : Int) + 25 := by omega
  have hd2 : ¬ (d + 25 = 504) := by omega
  have hd3 : ¬ (d = 479) := by omega
  have Hright : Hid (∀ (A : Option Addr) (c : Nat) W, Calls Try.prog 139 #[.int .i64 p, secV x A c] W fun e w' => e = .returned (.int .i64 0) ∧ Below W.heap.size W w') := Lib.hid fun A c W => by rw [← hri]; exact right_any p x A c W
  have Hwr : Hid (∀ (A : Option Addr) (c : Nat) W, BytesAt W A x.body.length x.body → Calls Try.prog 141 #[.int .i64 p, secV x A c] W fun e w' => ∃ g', e = .returned (.slice (some ⟨g', 0, none⟩) 504 504) ∧
      w'.ownsRow W.heap.size 5 1 (.slice (some ⟨g', 0, none⟩) 504 504) 504 (bytesV (textS p x)) ∧ Below W.heap.size W w') := Lib.hid fun A c W hb => written_all p x A c W hri hb
  clear hri
  have Hsm : Hid (decide (textS p x = l.take 504) = true) := Lib.hid (by simpa using hsm)
  clear hsm
  have Hck : Hid (checkK K (l.take 504) (l.drop 504) = true) := Lib.hid (by exact hck)
  have Hl8 : Hid ((l.drop 504).length ≤ 8) := Lib.hid (by rw [List.length_drop, hb.len]; decide)
  clear hck
  have Hb := Lib.hid hb; clear hb
  have Hr := Lib.hid hr; clear hr hl
  go_enter Try.func58, Try.ntmps58
  go_wp2_with fail
  refine (none_any _ _).mono ?_; rintro e w1 ⟨rfl, rfl⟩
  go_wp2_with fail
  refine (IsBlank_any (some ⟨g, o, none⟩) 512 (d + 25) l _ (Hb.out.below (Bbox _ _)) (by omega) (by decide)).mono ?_
  rintro e w1 ⟨rfl, hb1⟩
  rw [World.size_alloc] at hb1
  have hx := zero_cells hb1
  have hB1 : Below w.heap.size w w1 := (Bbox w _).trans (hb1.mono (Nat.le_succ _))
  go_wp2_with fail
  refine (read_any g o d l w1 (Hb.out.below hB1) hd).mono ?_
  rintro e w2 hp
  rcases hp with ⟨hs, _⟩ | ⟨x', A, c', hs, rfl, hown2, hb2⟩
  case inl => rw [Hr.out] at hs; cases hs
  obtain rfl : x = x' := Option.some.inj (Hr.out.symm.trans hs)
  have hx2 := (hb2.block _ (blk_lt hx)).trans hx
  have hB2 := Bthen hB1 hb2
  have hz1 := hB1.size
  have hz1' := blk_lt hx
  obtain ⟨xk, xl, xq, xg, xb⟩ := x
  have Hright := Lib.hid Hright.out
  unfold secV at Hright Hwr
  unfold secV
  simp only at hown2
  simp only
  go_wp2_with fail
  have hx3 := (Below.heap_alloc w2 (.cells #[.int .i64 xk, .int .u64 (xl : Int), .int .i64 xq, .int .u64 (xg : Int), .slice A xb.length c'] 54) _ (blk_lt hx2)).trans hx2
  have hy3 := heap_alloc_new w2 (.cells #[.int .i64 xk, .int .u64 (xl : Int), .int .i64 xq, .int .u64 (xg : Int), .slice A xb.length c'] 54)
  have hb3 : Below w2.heap.size w2 (w2.alloc (.cells #[.int .i64 xk, .int .u64 (xl : Int), .int .i64 xq, .int .u64 (xg : Int), .slice A xb.length c'] 54)) := Bbox _ _
  generalize w2.alloc (.cells #[.int .i64 xk, .int .u64 (xl : Int), .int .i64 xq, .int .u64 (xg : Int), .slice A xb.length c'] 54) = w3 at hx3 hy3 hb3 ⊢
  have hB3 := Bthen hB2 hb3
  have hown3 := own_below hown2 hb3
  have hbody := BytesAt.own hown3
  have hbytes := Hb.out.below hB3
  clear hx hx2 hb1 hb2 hown2 hs
  have hbox := box_facts hy3
  have hbox0 := fun x => (hbox x).1
  have hbox1 := fun x => (hbox x).2.1
  have hbox2 := fun x => (hbox x).2.2.1
  have hbox3 := fun x => (hbox x).2.2.2.1
  have hbox4 := fun x => (hbox x).2.2.2.2
  have Hown3 := Lib.hid hown3
  have Hbody := Lib.hid hbody
  have Hbytes := Lib.hid hbytes
  clear hbox hown3 hbody hbytes
  refine wp_region_in (BelowW w3) [(0, true), (1, true), (2, true), (3, true), (4, true), (5, false), (6, true), (7, true), (8, true), (9, true), (10, true), (12, true), (13, true), (11, false), (14, false), (15, true), (16, true), (17, true), (18, true), (19, true), (20, true), (21, true), (22, true), (23, false), (24, true), (25, true)] (by kernel_rfl) (by kernel_rfl) (fun _ _ _ _ _ h => h) (inB_drew _) (fun hne => ?_)
  simp only [permOps, List.map_cons, List.map_nil, List.getD_cons_zero, List.getD_cons_succ]
  (repeat ((with_reducible refine wpPerm_F ?_); intro K hK; go_simp; refine hK _ _ ?_; clear hK K))
  (with_reducible refine wpPerm_G ?_); intro K K' hK hK'; go_simp
  refine (Hright.out A c' _).mono ?_
  rintro e y1 ⟨rfl, hy1⟩
  have hW1 : Below w3.heap.size w3 y1 := Bthen (Bdrew (Bnil w3)) hy1
  (refine hK _ _ ?_; clear hK hK' K K')
  refine ⟨inB_more hW1, ?_⟩
  (repeat ((with_reducible refine wpPerm_F ?_); intro K hK; go_simp; refine hK _ _ ?_; clear hK K))
  (with_reducible refine wpPerm_G ?_); intro K K' hK hK'; go_simp
  refine (Hwr.out A c' _ (Hbody.out.below hW1)).mono ?_
  rintro e y2 ⟨g2, rfl, hownT, hy2⟩
  have hW2 : Below w3.heap.size w3 y2 := Bthen hW1 hy2
  have HBT := Lib.hid (BytesAt.own hownT); clear hownT
  have Hb504 := Lib.hid (bytes_part (Hbytes.out.below hW2) 0 504 (by decide))
  (refine hK _ _ ?_; clear hK hK' K K')
  refine ⟨inB_more hW2, ?_⟩
  (repeat ((with_reducible refine wpPerm_F ?_); intro K hK; go_simp; refine hK _ _ ?_; clear hK K))
  (with_reducible refine wpPerm_G ?_); intro K K' hK hK'; go_simp
  refine (NSame_any (some ⟨g2, 0, none⟩) (some ⟨g, o, none⟩) 504 504 504 (d + 25) _ _ y2 HBT.out (by decide) Hb504.out (by omega) (by decide) (by decide)).mono ?_
  rintro e y3 ⟨rfl, hy3'⟩
  have hW3 : Below w3.heap.size w3 y3 := Bthen hW2 hy3'
  rw [List.drop_zero, Hsm.out]
  (refine hK _ _ ?_; clear hK hK' K K')
  refine ⟨inB_more hW3, ?_⟩
  (repeat ((with_reducible refine wpPerm_F ?_); intro K hK; go_simp; refine hK _ _ ?_; clear hK K))
  have Hb8 := Lib.hid (bytes_part (Hbytes.out.below hW3) 504 8 (by decide))
  have Hb504b := Lib.hid (bytes_part (Hbytes.out.below hW3) 0 504 (by decide))
  have hKy := hK.below (hB3.trans (hW3.mono hB3.size))
  (with_reducible refine wpPerm_G ?_); intro K K' hK hK'; go_simp
  refine (Check_any (some ⟨g, o, none⟩) (some ⟨g, o + 504, none⟩) 504 (d + 25) 8 (d - 479) _ _ hKy Hb504b.out Hb8.out (by omega) (by decide) (by decide) (by decide)).mono ?_
  rintro e y4 ⟨rfl, hy4⟩
  have hW4 : Below w3.heap.size w3 y4 := Bthen hW3 hy4
  rw [List.drop_zero, List.take_of_length_le (l := l.drop 504) Hl8.out, Hck.out]
  (refine hK _ _ ?_; clear hK hK' K K')
  refine ⟨inB_more hW4, ?_⟩
  (repeat ((with_reducible refine wpPerm_F ?_); intro K hK; go_simp; refine hK _ _ ?_; clear hK K))
  refine wpPerm_nil ?_
  have hX := (hW4.block _ (blk_lt hx3)).trans hx3
  have hY := (hW4.block _ (blk_lt hy3)).trans hy3
  have hBf := hB3.trans (hW4.mono hB3.size)
  have hownf := own_below Hown3.out hW4
  have hlt := blk_lt hx3
  obtain ⟨z0, z1, z2, z3, z4, zf⟩ := cells5 hX
  obtain ⟨v0, v1, v2, v3, v4, vf⟩ := cells5 hY
  clear hbox0 hbox1 hbox2 hbox3 hbox4
  go_wp2_with fail
  obtain ⟨V, hV, hXs, hFs⟩ := five_set hX (.int .i64 xk) (.int .u64 (xl : Int)) (.int .i64 xq) (.int .u64 (xg : Int)) (.slice A xb.length c')
  rw [hV]
  obtain ⟨y0, y1', y2', y3', y4', yf⟩ := cells5 hXs
  refine bodyPost_ret (v := .tuple #[.agg #[.int .i64 xk, .int .u64 (xl : Int), .int .i64 xq, .int .u64 (xg : Int), .slice A xb.length c'], .int .i64 0]) ?_ rfl ⟨A, c', rfl, ?_, hBf.trans (hFs.own (Nat.le_refl _) hBf.size)⟩
  · simp [results, Try.results58, go_sem, y0, y1', y2', y3', y4']
  · exact own_mono (own_frame hownf hFs (fun k hk => by omega)) hz1

theorem part_take (l : List UInt8) (i k : Nat) (h : i + k ≤ 504) : ((l.take 504).drop i).take k = (l.drop i).take k := by
  rw [List.drop_take, List.take_take, Nat.min_eq_left (by omega)]
theorem readS_take (l : List UInt8) : readS (l.take 504) = readS l := by
  unfold readS
  rw [part_take l 23 2 (by decide), part_take l 3 8 (by decide), part_take l 11 4 (by decide), part_take l 15 8 (by decide), List.take_take]
  by_cases h : 479 < getB ((l.drop 23).take 2)
  · rw [if_pos h, if_pos h]
  · rw [if_neg h, if_neg h, part_take l 25 _ (by omega)]
    rfl

/-- Decode, whatever the bytes. -/
theorem Decode_any (p : Int) (g o c : Nat) (l : List UInt8) (hK : SuitP w u K S) (hb : BytesAt w (some ⟨g, o, none⟩) 512 l) (hc : 512 ≤ c) :
    Calls Try.prog 58 #[.pointer (some ⟨u, 0, none⟩), .int .i64 p, .slice (some ⟨g, o, none⟩) 512 c] w fun e w' => DecPost (decK K p l) w e w' := by
  unfold decK
  rw [if_neg (by rw [hb.len]; simp)]
  by_cases hl : l = blankS
  · rw [if_pos hl]; exact Decode_blank p g o c l u w hb hc hl
  · rw [if_neg hl]
    obtain ⟨d, rfl⟩ : ∃ d, c = d + 25 := ⟨c - 25, by omega⟩
    unfold ofS
    rw [readS_take]
    cases hr : readS l with
    | none => exact Decode_none p g o d l u w hb (by omega) hl hr
    | some x =>
      simp only
      by_cases hri : rightS p x = 0
      · by_cases hsm : textS p x = l.take 504
        · rw [if_pos ⟨hri, hsm⟩]
          cases hck : checkK K (l.take 504) (l.drop 504) with
          | false => exact Decode_sum p g o d l x hK hb (by omega) hl hr hri hsm hck
          | true => exact Decode_yes p g o d l x hK hb (by omega) hl hr hri hsm hck
        · rw [if_neg (fun h => hsm h.2)]
          exact Decode_text p g o d l x hb (by omega) hl hr hri hsm
      · rw [if_neg (fun h => hri h.1)]
        exact Decode_right p g o d l x hb (by omega) hl hr hri

end
end Go.Proofs.Ytdjndeleafhglaa
namespace Go.Proofs.Ytdjndeleafhglaa
open Go.RowKit

theorem Clone_none (c : Nat) (w : World) : Calls Try.prog 135 #[.slice none 0 c] w fun e w' => e = .returned (.slice none 0 0) ∧ w = w' := by
  have q22 : ∀ (w : World) (a : Option Addr) (n c n' c' : Nat), (binOp .eql 41 (.slice a n c) (.slice none n' c')).run Try.prog w = .ok (.bool a.isNone) w := fun w a n c n' c' => Lib.run_eql_slice_nil w _ _ a n c n' c' Try.underlying41
  go_enter Try.func135, Try.ntmps135
  go_wp2_with fail
  go_ret
  exact ⟨rfl, rfl⟩

set_option maxRecDepth 100000 in
theorem Real_any (w : World) : Calls Try.prog 59 #[.slice none 0 0] w fun e w' => ∃ u S, e = .returned (.pointer (some ⟨u, 0, none⟩)) ∧ SuitP w' u none S ∧ (∀ k, S k → w.heap.size ≤ k) ∧ Below w.heap.size w w' := by
  have hnew : Calls Try.prog 143 #[.slice none 0 0] w fun e w' => e = .returned (.pointer (some ⟨w.heap.size, 0, none⟩)) ∧ w' = w.alloc (.cells #[.slice none 0 0, .int .i64 0] 252) := by
    go_enter Try.func143, Try.ntmps143
    go_wp2_with fail
    refine (Clone_none 0 _).mono ?_; rintro e w1 ⟨rfl, rfl⟩
    go_wp2_with fail
    go_ret
    exact ⟨rfl, rfl⟩
  go_enter Try.func59, Try.ntmps59
  go_wp2_with fail
  refine hnew.mono ?_; rintro e w1 ⟨rfl, rfl⟩
  go_wp2_with fail
  go_ret
  refine ⟨_, fun k => k = w.heap.size + 1, rfl, ⟨⟨⟨w.heap.size, 0, none⟩, ?_⟩, rfl, fun k hk => by simp; omega⟩, fun k hk => by omega, Bnew (Bbox _ _) _⟩
  have := heap_alloc_new (w.alloc (.cells #[.slice none 0 0, .int .i64 0] 252)) (.cells #[.pointer none, .map none, .pointer (some ⟨w.heap.size, 0, none⟩)] 192)
  simpa using this

set_option maxRecDepth 100000 in
theorem Symbolic_at (w : World) : Calls Try.prog 71 #[] w fun e w' => ∃ u m, e = .returned (.pointer (some ⟨u, 0, none⟩)) ∧ SuitP w' u (some []) (fun k => k = u ∨ k = m) ∧ w.heap.size ≤ u ∧ w.heap.size ≤ m ∧ Below w.heap.size w w' := by
  have hmm := @run_makeMap Try.prog
  have hnew : Calls Try.prog 152 #[] w fun e w' => ∃ tb, e = .returned (.pointer (some tb)) ∧ Below w.heap.size w w' := by
    go_enter Try.func152, Try.ntmps152
    go_wp2_with fail
    go_ret
    exact ⟨_, rfl, Bnew (Bbox _ _) _⟩
  have Hnew := Lib.hid hnew; clear hnew
  go_enter Try.func71, Try.ntmps71
  go_wp2_with fail
  refine Hnew.out.mono ?_; rintro e w1 ⟨tb, rfl, hb1⟩
  go_wp2_with fail
  go_ret
  have hz := hb1.size
  refine ⟨w1.heap.size + 1, w1.heap.size, rfl, ⟨⟨tb, w1.heap.size, .map [], ?_, ?_, SaysU.nil, .inr rfl, by simp⟩, .inl rfl, fun k hk => by simp; omega⟩, by omega, by omega, Bnew (Bnew hb1 _) _⟩
  · have := heap_alloc_new (w1.alloc (.map #[] 0)) (.cells #[.pointer (some tb), .map (some w1.heap.size), .pointer none] 192)
    simpa using this
  · exact (World.ownsMap_made w1 Try.prog 9 (plainElem Try.prog 3)).alloc _
theorem Symbolic_any (w : World) : Calls Try.prog 71 #[] w fun e w' => ∃ u S, e = .returned (.pointer (some ⟨u, 0, none⟩)) ∧ SuitP w' u (some []) S ∧ (∀ k, S k → w.heap.size ≤ k) ∧ Below w.heap.size w w' :=
  (Symbolic_at w).mono fun _ _ ⟨u, m, he, hs, hu, hm, hb⟩ => ⟨u, _, he, hs, fun k hk => by rcases hk with h | h <;> omega, hb⟩

end Go.Proofs.Ytdjndeleafhglaa
namespace Go.Proofs.Ytdjndeleafhglaa
open Go.RowKit

/-- A disk d that is D, and a suite u of terms (its map in block m) that has summed U; S: the blocks that are theirs to write. -/
structure Duo (w : World) (d u m : Nat) (D : DS) (U : List (List UInt8)) (S : Nat → Prop) : Prop where
  both : ∃ S1, DiskAt w d D S1 ∧ SuitP w u (some U) (fun k => k = u ∨ k = m) ∧ ¬ S1 u ∧ ¬ S1 m ∧ ∀ k, S k ↔ S1 k ∨ k = u ∨ k = m
/-- They have turned to D' and U'; of what lay there nothing but their own has. -/
def Turn2 (S : Nat → Prop) (d u m : Nat) (D' : DS) (U' : List (List UInt8)) (w w' : World) : Prop := ∃ S', Duo w' d u m D' U' S' ∧ Frame S w w' ∧ ∀ k, S' k → S k ∨ w.heap.size ≤ k

theorem suit_blocks {w : World} {u m : Nat} {U : List (List UInt8)} (h : SuitP w u (some U) (fun k => k = u ∨ k = m)) :
    (∃ cs, w.heap[u]? = some (.cells cs 192 (0, 0))) ∧ ∃ es c, w.heap[m]? = some (.map es c) := by
  obtain ⟨⟨tb, m', D, hs, ⟨es, clock, hm, _⟩, _, hS, _⟩, _⟩ := h
  refine ⟨⟨_, hs⟩, ?_⟩
  rcases hS with rfl | rfl
  · rw [hs] at hm; cases hm
  · exact ⟨_, _, hm⟩

section
variable {w w' : World} {d u m : Nat} {D : DS} {U : List (List UInt8)} {S : Nat → Prop}

theorem DiskP.suit {S1 : Nat → Prop} {bk : Nat} {pv av : Value} {H : List (Nat × List UInt8 × Nat)} (h : DiskP w d D S1 bk pv av H) (hs : SuitP w u (some U) (fun k => k = u ∨ k = m)) (hu : ¬ S1 u) (hm : ¬ S1 m) (hf : Frame (fun k => k = u ∨ k = m) w w') : DiskP w' d D S1 bk pv av H := by
  obtain ⟨C, hC, hCs⟩ := h.blk
  obtain ⟨⟨cs, hu0⟩, ⟨es, cl, hm0⟩⟩ := suit_blocks hs
  have hb : ∀ k, k < w.heap.size → k ≠ u → k ≠ m → w'.heap[k]? = w.heap[k]? := fun k hk h1 h2 => hf.block k hk (fun e => by rcases e with e | e <;> first | exact h1 e | exact h2 e)
  have hin : ∀ k, k < w.heap.size → S1 k → w'.heap[k]? = w.heap[k]? := fun k hk h1 => hb k hk (fun e => hu (e ▸ h1)) (fun e => hm (e ▸ h1))
  obtain ⟨o1, o2, o3, o4⟩ := h.ownS
  refine ⟨(hin d (blk_lt h.hdr) o1).trans h.hdr, ⟨C, (hin bk (blk_lt hC) o2).trans hC, hCs⟩, fun q hq => rangeAt_keep (h.kept q hq) (hin bk (blk_lt hC) o2), h.klen,
    own_same h.pend fun g cur he hg => hin g (blk_lt hg) (o3 g he), h.plen, own_same h.hist fun g cur he hg => hin g (blk_lt hg) (o4 g he), h.hsay, fun x hx => ?_, h.small, h.ownS, fun k hk => Nat.lt_of_lt_of_le (h.ltS k hk) hf.size⟩
  obtain ⟨h1, h2, h3⟩ := h.hblk x hx
  exact ⟨(hb _ (blk_lt h1) (blk_ne h1 hu0 (by decide)) (fun e => by rw [e, hm0] at h1; cases h1)).trans h1, h2, h3⟩
theorem DiskAt.suit {S1 : Nat → Prop} (h : DiskAt w d D S1) (hs : SuitP w u (some U) (fun k => k = u ∨ k = m)) (hu : ¬ S1 u) (hm : ¬ S1 m) (hf : Frame (fun k => k = u ∨ k = m) w w') : DiskAt w' d D S1 := by
  obtain ⟨bk, pv, av, H, hp⟩ := h
  exact ⟨bk, pv, av, H, hp.suit hs hu hm hf⟩

theorem Duo.lt (h : Duo w d u m D U S) : ∀ k, S k → k < w.heap.size := fun k hk => by
  obtain ⟨S1, h1, h2, _, _, h5⟩ := h.both
  rcases (h5 k).1 hk with h | h
  · exact h1.ltS k h
  · exact h2.2.2 k h
theorem Duo.below (h : Duo w d u m D U S) (hb : Below w.heap.size w w') : Duo w' d u m D U S := by
  obtain ⟨S1, h1, h2, h3, h4, h5⟩ := h.both
  exact ⟨S1, h1.below hb, h2.below hb, h3, h4, h5⟩
theorem Turn2.still (h : Duo w d u m D U S) : Turn2 S d u m D U w w := ⟨S, h, Frame.refl _ _, fun _ h => .inl h⟩
theorem Turn2.of_below (h : Duo w d u m D U S) (hb : Below w.heap.size w w') : Turn2 S d u m D U w w' := ⟨S, h.below hb, Frame.of_below hb, fun _ h => .inl h⟩
theorem Turn2.size (h : Turn2 S d u m D U w w') : w.heap.size ≤ w'.heap.size := by
  obtain ⟨_, _, h, _⟩ := h
  exact h.size
/-- Behind something that writes nothing of what lay there, and ahead of it. -/
theorem Turn2.after {w0 : World} {D' : DS} {U' : List (List UInt8)} (hb : Below w0.heap.size w0 w) (h : Turn2 S d u m D' U' w w') : Turn2 S d u m D' U' w0 w' := by
  obtain ⟨S', h1, h2, h3⟩ := h
  have hz := hb.size
  exact ⟨S', h1, (Frame.of_below hb).trans h2 (fun _ h => .inl h), fun k hk => (h3 k hk).imp_right fun h => by omega⟩
theorem Turn2.then (h : Turn2 S d u m D U w w') {w2 : World} (hb : Below w'.heap.size w' w2) : Turn2 S d u m D U w w2 := by
  obtain ⟨S', h1, h2, h3⟩ := h
  exact ⟨S', h1.below hb, h2.trans (Frame.of_below (S := S) hb) (fun _ h => .inl h), h3⟩
/-- One turn behind the other. -/
theorem Turn2.comp {w1 w2 : World} {S1 : Nat → Prop} {D' : DS} {U' : List (List UInt8)} (hf : Frame S w w1) (hS : ∀ k, S1 k → S k ∨ w.heap.size ≤ k) (h : Turn2 S1 d u m D' U' w1 w2) : Turn2 S d u m D' U' w w2 := by
  obtain ⟨S', h1, h2, h3⟩ := h
  have hz := hf.size
  refine ⟨S', h1, hf.trans h2 hS, fun k hk => ?_⟩
  rcases h3 k hk with h | h
  · exact hS k h
  · exact .inr (by omega)
theorem Turn2.low {B : Nat} (h : Turn2 S d u m D U w w') (hS : ∀ k, S k → B ≤ k) (hB : B ≤ w.heap.size) : Below B w w' := by
  obtain ⟨_, _, h, _⟩ := h
  exact h.below hS hB

/-- Each call of the disk, on both. -/
theorem Turn2.disk {D' : DS} {S1 : Nat → Prop} (hs : SuitP w u (some U) (fun k => k = u ∨ k = m)) (hu : ¬ S1 u) (hm : ¬ S1 m) (h5 : ∀ k, S k ↔ S1 k ∨ k = u ∨ k = m) (h : Turn S1 d D' w w') : Turn2 S d u m D' U w w' := by
  obtain ⟨S', h1, h2, h3⟩ := h
  have ul := hs.2.2 u (.inl rfl)
  have ml := hs.2.2 m (.inr rfl)
  refine ⟨fun k => S' k ∨ k = u ∨ k = m, ⟨S', h1, hs.keep h2.size (fun k hk => h2.block k (hs.2.2 k hk) (fun e => by rcases hk with rfl | rfl <;> first | exact hu e | exact hm e)), fun e => (h3 u e).elim hu (fun h => by omega), fun e => (h3 m e).elim hm (fun h => by omega), fun k => Iff.rfl⟩,
    ⟨h2.os, h2.tape, h2.output, h2.size, fun k hk hn => h2.block k hk (fun e => hn ((h5 k).2 (.inl e)))⟩, fun k hk => ?_⟩
  rcases hk with hk | hk
  · rcases h3 k hk with h | h
    · exact .inl ((h5 k).2 (.inl h))
    · exact .inr h
  · exact .inl ((h5 k).2 (.inr hk))

theorem Duo.write {q : Nat} (p : Int) (A : Option Addr) (n c : Nat) (b : List UInt8) (h : Duo w d u m D U S) (hF : Few D q) (hq : q ≤ 400000) (hb : BytesAt w A n b) (hA : 0 < n → ∀ g o, A = some ⟨g, o, none⟩ → ¬ S g) :
    Calls Try.prog 50 #[.pointer (some ⟨d, 0, none⟩), .int .i64 p, .slice A n c] w fun e w' => e = .returned (.int .i64 (writeD D p b).1) ∧ Turn2 S d u m (writeD D p b).2 U w w' := by
  obtain ⟨S1, h1, h2, h3, h4, h5⟩ := h.both
  have hr := hF.rows
  have hc := hF.calls
  exact (DWrite_any p A n c b h1 hb (fun h0 g o e hs => hA h0 g o e ((h5 g).2 (.inl hs))) (by omega) (by omega)).mono fun e w' ⟨he, ht⟩ => ⟨he, Turn2.disk h2 h3 h4 h5 ht⟩
theorem Duo.put {q : Nat} (p : Int) (A : Option Addr) (n c : Nat) (b : List UInt8) (h : Duo w d u m D U S) (hF : Few D q) (hq : q ≤ 400000) (hb : BytesAt w A n b) :
    Calls Try.prog 48 #[.pointer (some ⟨d, 0, none⟩), .int .i64 p, .slice A n c] w fun e w' => e = .returned (.int .i64 (putD D p b).1) ∧ Turn2 S d u m (putD D p b).2 U w w' := by
  obtain ⟨S1, h1, h2, h3, h4, h5⟩ := h.both
  have hr := hF.rows
  exact (DPut_any p A n c b h1 hb (by omega)).mono fun e w' ⟨he, ht⟩ => ⟨he, Turn2.disk h2 h3 h4 h5 ht⟩
theorem Duo.flush {q : Nat} (h : Duo w d u m D U S) (hF : Few D q) (hq : q ≤ 400000) :
    Calls Try.prog 81 #[.pointer (some ⟨d, 0, none⟩)] w fun e w' => e = .returned (.int .i64 (flushD D).1) ∧ Turn2 S d u m (flushD D).2 U w w' := by
  obtain ⟨S1, h1, h2, h3, h4, h5⟩ := h.both
  have hr := hF.rows
  have hc := hF.calls
  exact (DFlush_any h1 (by omega) (by omega)).mono fun e w' ⟨he, ht⟩ => ⟨he, Turn2.disk h2 h3 h4 h5 ht⟩
theorem Duo.arm (f : Int) (h : Duo w d u m D U S) (hf1 : f ≤ 9223372036854775807) :
    Calls Try.prog 82 #[.pointer (some ⟨d, 0, none⟩), .int .i64 f] w fun e w' => e = .returned (.tuple #[]) ∧ Turn2 S d u m (armD D f) U w w' := by
  obtain ⟨S1, h1, h2, h3, h4, h5⟩ := h.both
  exact (DArm_any f h1 hf1).mono fun e w' ⟨he, ht⟩ => ⟨he, Turn2.disk h2 h3 h4 h5 ht⟩
theorem Duo.restart {q : Nat} (A : Option Addr) (n c : Nat) (torn at_ : Int) (ks : List Int) (h : Duo w d u m D U S) (hF : Few D q) (hq : q ≤ 400000) (hks : IntsAt w A n ks) (hkS : 0 < n → ∀ g o, A = some ⟨g, o, none⟩ → ¬ S g ∧ g < w.heap.size) (hkb : n ≤ 1000000) :
    Calls Try.prog 51 #[.pointer (some ⟨d, 0, none⟩), .slice A n c, .int .i64 torn, .int .i64 at_] w fun e w' => e = .returned (.tuple #[]) ∧ Turn2 S d u m (restD D ks torn at_) U w w' := by
  obtain ⟨S1, h1, h2, h3, h4, h5⟩ := h.both
  have hr := hF.rows
  exact (DRestart_any A n c torn at_ ks h1 hks (fun h0 g o e => ⟨fun hs => (hkS h0 g o e).1 ((h5 g).2 (.inl hs)), (hkS h0 g o e).2⟩) hkb (by omega)).mono fun e w' ⟨he, ht⟩ => ⟨he, Turn2.disk h2 h3 h4 h5 ht⟩
theorem Duo.read (p : Int) (h : Duo w d u m D U S) :
    Calls Try.prog 83 #[.pointer (some ⟨d, 0, none⟩), .int .i64 p] w fun e w' => ∃ A c, e = .returned (.tuple #[.slice A (readX D p).1.length c, .int .i64 (readX D p).2]) ∧ BytesAt w' A (readX D p).1.length (readX D p).1 ∧ (readX D p).1.length ≤ c ∧ (readX D p).1.length ≤ 512 ∧ Below w.heap.size w w' := by
  obtain ⟨S1, h1, _⟩ := h.both
  exact DRead_any p h1
theorem Duo.kept (p : Nat) (h : Duo w d u m D U S) (hp : p < D.n) :
    Calls Try.prog 55 #[.pointer (some ⟨d, 0, none⟩), .int .i64 (p : Int)] w fun e w' =>
      e = .returned (.slice (some ⟨w.heap.size, 0, none⟩) 512 512) ∧ BytesAt w' (some ⟨w.heap.size, 0, none⟩) 512 (D.kept p) ∧ Below w.heap.size w w' := by
  obtain ⟨S1, ⟨bk, pv, av, H, h1⟩, _⟩ := h.both
  have hl := h1.klen p hp
  exact (Kept_yes p h1 hp).mono fun e w' ⟨he, hb, hbl⟩ => ⟨he, BytesAt.of_block 512 hl hb, hbl⟩
theorem Duo.down (h : Duo w d u m D U S) : Calls Try.prog 75 #[.pointer (some ⟨d, 0, none⟩)] w fun e w' => e = .returned (.bool D.down) ∧ w = w' := by
  obtain ⟨S1, ⟨bk, pv, av, H, h1⟩, _⟩ := h.both
  exact Down_any h1
theorem Duo.dsize (h : Duo w d u m D U S) : Calls Try.prog 77 #[.pointer (some ⟨d, 0, none⟩)] w fun e w' => e = .returned (.int .i64 (D.n : Int)) ∧ w = w' := by
  obtain ⟨S1, ⟨bk, pv, av, H, h1⟩, _⟩ := h.both
  exact DSize_any h1
theorem Duo.dcalls (h : Duo w d u m D U S) : Calls Try.prog 76 #[.pointer (some ⟨d, 0, none⟩)] w fun e w' => e = .returned (.int .i64 (D.calls : Int)) ∧ w = w' := by
  obtain ⟨S1, ⟨bk, pv, av, H, h1⟩, _⟩ := h.both
  exact DCalls_any h1
/-- The suite's two words. -/
theorem Duo.encode (p : Int) (x : Sec) (A : Option Addr) (c : Nat) (h : Duo w d u m D U S) (hx : rightS p x = 0) (hb : BytesAt w A x.body.length x.body) (hU : U.length ≤ 400000) :
    Calls Try.prog 66 #[.pointer (some ⟨u, 0, none⟩), .int .i64 p, secV x A c] w fun e w' => ∃ A' c', e = .returned (.tuple #[.slice A' 512 c', .int .i64 0]) ∧
      w'.ownsRow w.heap.size 5 1 (.slice A' 512 c') 512 (bytesV (encU U p x).1) ∧ Duo w' d u m D (encU U p x).2 S ∧ Frame S w w' := by
  obtain ⟨S1, h1, h2, h3, h4, h5⟩ := h.both
  refine (Encode_all p x A c h2 hx hb (by show U.length + 1 ≤ _; omega)).mono ?_
  rintro e w' ⟨A', c', he, ho, hs, hf⟩
  exact ⟨A', c', he, ho, ⟨S1, h1.suit h2 h3 h4 hf, hs, h3, h4, h5⟩, ⟨hf.os, hf.tape, hf.output, hf.size, fun k hk hn => hf.block k hk (fun e => hn ((h5 k).2 (.inr e)))⟩⟩
theorem Duo.encode_no (p : Int) (x : Sec) (A : Option Addr) (c : Nat) (hx : rightS p x ≠ 0) :
    Calls Try.prog 66 #[.pointer (some ⟨u, 0, none⟩), .int .i64 p, secV x A c] w fun e w' => e = .returned (.tuple #[.slice none 0 0, .int .i64 (rightS p x)]) ∧ Below w.heap.size w w' :=
  Encode_no p x A c hx
theorem Duo.decode (p : Int) (A : Option Addr) (n c : Nat) (l : List UInt8) (h : Duo w d u m D U S) (hb : BytesAt w A n l) (hc : n ≤ c) :
    Calls Try.prog 58 #[.pointer (some ⟨u, 0, none⟩), .int .i64 p, .slice A n c] w fun e w' => DecPost (decU U p l) w e w' := by
  obtain ⟨S1, h1, h2, h3, h4, h5⟩ := h.both
  by_cases hn : n = 512
  · subst hn
    obtain ⟨g, o, rfl, _⟩ := hb.at_ (by decide)
    rw [← decK_some]
    exact Decode_any p g o c l h2 hb hc
  · have : decU U p l = (4, secZero) := by unfold decU; rw [if_pos (by rw [hb.len]; exact hn)]
    rw [this]
    exact Decode_form p A n c w u hn

end

/-- In a statement: both made since W, which lies as it lay. -/
structure Rig (W w : World) (d u m : Nat) (D : DS) (U : List (List UInt8)) : Prop where
  ex : ∃ S, Duo w d u m D U S ∧ Below W.heap.size W w ∧ ∀ k, S k → W.heap.size ≤ k
theorem Rig.next {W w w' : World} {d u m : Nat} {D' : DS} {U' : List (List UInt8)} {S : Nat → Prop} (hb : Below W.heap.size W w) (hS : ∀ k, S k → W.heap.size ≤ k) (ht : Turn2 S d u m D' U' w w') : Rig W w' d u m D' U' := by
  have hl := ht.low hS hb.size
  obtain ⟨S', h1, h2, h3⟩ := ht
  have hz := hb.size
  exact ⟨S', h1, hb.trans hl, fun k hk => (h3 k hk).elim (hS k) (fun h => by omega)⟩
theorem Rig.then {W w w' : World} {d u m : Nat} {D : DS} {U : List (List UInt8)} (h : Rig W w d u m D U) (hb : Below w.heap.size w w') : Rig W w' d u m D U := by
  obtain ⟨S, h1, h2, h3⟩ := h.ex
  exact ⟨S, h1.below hb, Bthen h2 hb, h3⟩
theorem Rig.bel {W w : World} {d u m : Nat} {D : DS} {U : List (List UInt8)} (h : Rig W w d u m D U) : Below W.heap.size W w := by
  obtain ⟨S, h1, h2, h3⟩ := h.ex
  exact h2
/-- Both made. -/
theorem Rig.made {W w1 w2 : World} {n u m : Nat} (hb1 : Below W.heap.size W w1) (hd : DiskAt w1 (W.heap.size + 1) (newD n) (fun k => k = W.heap.size ∨ k = W.heap.size + 1)) (hs : SuitP w2 u (some []) (fun k => k = u ∨ k = m)) (hu : w1.heap.size ≤ u) (hm : w1.heap.size ≤ m) (hb2 : Below w1.heap.size w1 w2) :
    Rig W w2 (W.heap.size + 1) u m (newD n) [] := by
  have hl := hd.ltS
  have l1 := hl (W.heap.size + 1) (.inr rfl)
  exact ⟨fun k => (k = W.heap.size ∨ k = W.heap.size + 1) ∨ k = u ∨ k = m, ⟨_, hd.below hb2, hs, by omega, by omega, fun k => Iff.rfl⟩, Bthen hb1 hb2, fun k hk => by omega⟩

end Go.Proofs.Ytdjndeleafhglaa
namespace Go.Proofs.Ytdjndeleafhglaa

/-- Nothing waits, and the power is there. -/
structure Calm (D : DS) : Prop where
  up : D.down = false
  idle : D.pend = []

theorem Calm.new (n : Nat) : Calm (newD n) := ⟨rfl, rfl⟩
theorem Calm.read {D : DS} (h : Calm D) {p : Nat} (hp : p < D.n) : readX D (p : Int) = (D.kept p, 0) := by
  unfold readX readD
  rw [if_neg (by simp [h.up]), if_neg (by omega), h.idle]
  rfl

/-- Writing, then flushing. -/
def stampD (D : DS) (p : Int) (b : List UInt8) : Int × DS := if (writeD D p b).1 ≠ 0 then writeD D p b else flushD (writeD D p b).2

/-- What a stamp leaves: it is there, or the power went first. -/
inductive Stamped (D : DS) (p : Nat) (b : List UInt8) (R : Int × DS) : Prop where
  | yes (h0 : R.1 = 0) (hk : R.2.kept = fun q => if q = p then b else D.kept q) (hn : R.2.n = D.n) (hc : Calm R.2) (hf : D.fuse = -1 → R.2.fuse = -1)
  | no (h0 : R.1 = 12) (hk : R.2.kept = D.kept) (hn : R.2.n = D.n) (hp : R.2.pend = [(p, b)]) (hd : R.2.down = true) (hf : D.fuse ≠ -1)

theorem stamp_calm {D : DS} (h : Calm D) (hf : -1 ≤ D.fuse) {p : Nat} (hp : p < D.n) {b : List UInt8} (hb : b.length = 512) : Stamped D p b (stampD D (p : Int) b) := by
  obtain ⟨n, kept, pend, hist, fuse, calls, down⟩ := D
  obtain ⟨h1, h2⟩ := h
  simp only at h1 h2 hp hf
  subst h1 h2
  have hw : writeD ⟨n, kept, [], hist, fuse, calls, false⟩ (p : Int) b = burnD ⟨n, kept, [(p, b)], hist, fuse, calls, false⟩ := by
    unfold writeD
    rw [if_neg (by simp), if_neg (by simp only; omega), if_neg (by simp [hb])]
    rfl
  unfold stampD
  rw [hw]
  unfold burnD
  by_cases h0 : fuse = 0
  · rw [if_pos h0, if_pos (by simp)]
    exact .no rfl rfl rfl rfl rfl (by simp only; omega)
  rw [if_neg h0]
  by_cases h1 : 0 < fuse
  · rw [if_pos h1, if_neg (by simp)]
    unfold flushD
    rw [if_neg (by simp)]
    unfold burnD
    simp only
    by_cases h2 : fuse - 1 = 0
    · rw [if_pos h2, if_pos (by simp)]
      exact .no rfl rfl rfl rfl rfl (by simp only; omega)
    · rw [if_neg h2, if_pos (show 0 < fuse - 1 by omega), if_neg (by simp)]
      exact .yes rfl rfl rfl ⟨rfl, rfl⟩ (fun e => by simp only at e; omega)
  · rw [if_neg h1, if_neg (by simp)]
    unfold flushD
    rw [if_neg (by simp)]
    unfold burnD
    simp only
    rw [if_neg h0, if_neg h1, if_neg (by simp)]
    exact .yes rfl rfl rfl ⟨rfl, rfl⟩ (fun e => e)

/-- What the restart leaves of nothing pending. -/
theorem rest_idle {D : DS} (h : D.pend = []) (ks : List Int) (torn at_ : Int) : (restD D ks torn at_).kept = D.kept ∧ (restD D ks torn at_).n = D.n ∧ Calm (restD D ks torn at_) ∧ (restD D ks torn at_).fuse = -1 := by
  unfold restD restAll
  rw [h]
  exact ⟨rfl, rfl, ⟨rfl, rfl⟩, rfl⟩
/-- .. of one thing pending: elsewhere all is as it was. -/
theorem rest_one {D : DS} {p : Nat} {b : List UInt8} (h : D.pend = [(p, b)]) (ks : List Int) (torn at_ : Int) :
    (∀ q, q ≠ p → (restD D ks torn at_).kept q = D.kept q) ∧ ((restD D ks torn at_).kept p = D.kept p ∨ (restD D ks torn at_).kept p = b ∨ (restD D ks torn at_).kept p = b.take (at_ % 513).toNat ++ (D.kept p).drop (at_ % 513).toNat) ∧
      (restD D ks torn at_).n = D.n ∧ Calm (restD D ks torn at_) ∧ (restD D ks torn at_).fuse = -1 := by
  have e : restAll ks torn (at_ % 513).toNat D D.pend = stepR ks torn (at_ % 513).toNat D (p, b) 0 := by rw [h]; rfl
  unfold restD
  rw [e]
  unfold stepR
  split
  · refine ⟨fun q hq => ?_, .inr (.inr ?_), rfl, ⟨rfl, rfl⟩, rfl⟩
    · simp only [keepD]; rw [if_neg hq]
    · simp only [keepD, if_true]
  · split
    · refine ⟨fun q hq => ?_, .inr (.inl ?_), rfl, ⟨rfl, rfl⟩, rfl⟩
      · simp only [keepD]; rw [if_neg hq]
      · simp only [keepD, if_true]
    · exact ⟨fun q hq => rfl, .inl rfl, rfl, ⟨rfl, rfl⟩, rfl⟩
theorem restD_n (D : DS) (ks : List Int) (torn at_ : Int) : (restD D ks torn at_).n = D.n := by
  obtain ⟨h1, _⟩ := restAll_same ks torn (at_ % 513).toNat D.pend D
  exact h1
theorem restD_calm (D : DS) (ks : List Int) (torn at_ : Int) : Calm (restD D ks torn at_) := ⟨rfl, rfl⟩
theorem Few.stamp {D : DS} {q : Nat} (h : Few D q) (p : Int) (b : List UInt8) : Few (stampD D p b).2 (q + 2) := by
  unfold stampD
  split
  · exact (h.write p b).mono (by omega)
  · exact (h.write p b).flush

end Go.Proofs.Ytdjndeleafhglaa
namespace Go.Proofs.Ytdjndeleafhglaa

theorem encK_take (K : SU) (p : Int) (x : Sec) : (encK K p x).1.take 504 = textS p x := by
  unfold encK
  exact List.take_left' (textS_length p x)
theorem encK_drop (K : SU) (p : Int) (x : Sec) : (encK K p x).1.drop 504 = (sumK K (textS p x)).1 := by
  unfold encK
  exact List.drop_left' (textS_length p x)
theorem checkK_sum (K : SU) (t : List UInt8) : checkK (sumK K t).2 t (sumK K t).1 = true := by
  cases K with
  | none => simp [checkK, sumK]
  | some U =>
    simp only [sumK, checkK]
    unfold checkU
    rw [sumU_idx]
    simp [sumU_mem]
/-- What is written is read. -/
theorem decK_enc {K : SU} {p : Int} {x : Sec} (h : rightS p x = 0) (hl : x.life < 18446744073709551616) (hg : x.gen < 18446744073709551616) : decK (encK K p x).2 p (encK K p x).1 = (0, x) := by
  unfold decK
  rw [if_neg (by rw [encK_length]; simp), if_neg (show ¬ (encK K p x).1 = blankS from textS_head p x h _), encK_take, encK_drop, ofS_textS h hl hg]
  have := checkK_sum K (textS p x)
  simp only [encK, this, if_true]
/-- .. at its place alone. -/
theorem decK_other {K K' : SU} {p q : Int} {x : Sec} (h : rightS p x = 0) (hpq : q ≠ p) : decK K' q (encK K p x).1 = (11, secZero) := by
  unfold decK
  rw [if_neg (by rw [encK_length]; simp), if_neg (show ¬ (encK K p x).1 = blankS from textS_head p x h _), encK_take, ofS_other h hpq]
/-- Where one thing alone was summed, it alone is read. -/
theorem decK_alone {p : Int} {x : Sec} {b : List UInt8} (hb : b ≠ (encK (some []) p x).1) : (decK (encK (some []) p x).2 p b).1 ≠ 0 := by
  have e2 : (encK (some []) p x).2 = some [textS p x] := by simp [encK, sumK, sumU]
  rw [e2, decK_some]
  intro h0
  rcases decU_cases [textS p x] p b with ⟨y, hy⟩ | ⟨h, _⟩
  · obtain ⟨h1, h2, h3, h4, h5, h6⟩ := decU_ok hy
    have h7 : textS p y = textS p x := by simpa using h5
    apply hb
    have := decU_bytes hy
    rw [this, h7]
    simp [encK, sumK, sumU]
  · exact h h0
theorem decK_alone2 {p : Int} {x : Sec} {b : List UInt8} (hb : b ≠ (encK (some []) p x).1) : ∃ rf, decK (encK (some []) p x).2 p b = (rf, secZero) ∧ rf ≠ 0 := by
  have h0 := decK_alone hb
  have e2 : (encK (some []) p x).2 = some [textS p x] := by simp [encK, sumK, sumU]
  rw [e2, decK_some] at h0 ⊢
  rcases decU_cases [textS p x] p b with ⟨y, hy⟩ | ⟨h, h'⟩
  · rw [hy] at h0; exact absurd rfl h0
  · exact ⟨_, Prod.ext rfl h', h⟩

end Go.Proofs.Ytdjndeleafhglaa
namespace Go.Proofs.Ytdjndeleafhglaa

def rootS (gen : Nat) (key : List UInt8) : Sec := ⟨1, 0, 0, gen, key⟩
/-- Is it the root of a gen? -/
def rootIs (gen : Nat) (x : Sec) : Prop := x.kind = 1 ∧ x.life = 0 ∧ x.seq = 0 ∧ x.gen = gen ∧ x.body.length = 32
instance (gen : Nat) (x : Sec) : Decidable (rootIs gen x) := by unfold rootIs; infer_instance
def rplace (gen : Nat) : Nat := gen % 2

def rputD (D : DS) (K : List (List UInt8)) (gen : Nat) (key : List UInt8) : Int × DS × List (List UInt8) :=
  if key.length ≠ 32 then (4, D, K) else ((stampD D (rplace gen : Int) (encU K (rplace gen : Int) (rootS gen key)).1).1, (stampD D (rplace gen : Int) (encU K (rplace gen : Int) (rootS gen key)).1).2, (encU K (rplace gen : Int) (rootS gen key)).2)
def reraseD (D : DS) (gen : Nat) : Int × DS := stampD D (rplace gen : Int) blankS
/-- What is read of bytes as the key of a gen. -/
def rkeyB (K : List (List UInt8)) (gen : Nat) (b : List UInt8) : List UInt8 × Int := if (decU K (rplace gen : Int) b).1 = 0 ∧ rootIs gen (decU K (rplace gen : Int) b).2 then ((decU K (rplace gen : Int) b).2.body, 0) else ([], 11)
def rgetD (D : DS) (K : List (List UInt8)) (gen : Nat) : List UInt8 × Int := if (readX D (rplace gen : Int)).2 ≠ 0 then ([], (readX D (rplace gen : Int)).2) else rkeyB K gen (readX D (rplace gen : Int)).1
def rblankD (D : DS) (gen : Nat) : Bool × Int := (decide ((readX D (rplace gen : Int)).2 = 0) && decide ((readX D (rplace gen : Int)).1 = blankS), (readX D (rplace gen : Int)).2)
/-- Settling: what is told, and the disk behind it. -/
def rsetD (D : DS) (K : List (List UInt8)) (gen : Nat) : (List UInt8 × Int) × DS :=
  if (rgetD D K gen).2 ≠ 0 then (([], (rgetD D K gen).2), D)
  else if (rblankD D (gen ^^^ 1)).2 = 0 then
    (if (rblankD D (gen ^^^ 1)).1 = true then (rgetD D K gen, D)
     else if (reraseD D (gen ^^^ 1)).1 ≠ 0 then (([], (reraseD D (gen ^^^ 1)).1), (reraseD D (gen ^^^ 1)).2) else (rgetD D K gen, (reraseD D (gen ^^^ 1)).2))
  else (([], (rblankD D (gen ^^^ 1)).2), D)

theorem rplace_lt (gen : Nat) : rplace gen < 2 := Nat.mod_lt _ (by decide)
theorem rplace_xor (gen : Nat) : rplace (gen ^^^ 1) = 1 - rplace gen := by
  unfold rplace
  have := Nat.xor_mod_two_pow (a := gen) (b := 1) (n := 1)
  rw [Nat.pow_one] at this
  rw [this]
  rcases Nat.mod_two_eq_zero_or_one gen with h | h <;> rw [h] <;> rfl
theorem rplace_succ (gen : Nat) : rplace (gen + 1) = 1 - rplace gen := by unfold rplace; omega
theorem xor_lt64 {gen : Nat} (h : gen < 18446744073709551616) : gen ^^^ 1 < 18446744073709551616 := Nat.xor_lt_two_pow (n := 64) (by omega) (by omega)
theorem rootS_right (gen : Nat) {key : List UInt8} (h : key.length = 32) : rightS (rplace gen : Int) (rootS gen key) = 0 := by
  have := rplace_lt gen
  exact rightS_ok.2 ⟨by simp [rootS], by simp [rootS], by omega, by omega, by simp [rootS], by simp [rootS], by simp [rootS, h]⟩

/-- Of a disk where all is calm. -/
theorem rget_calm {D : DS} (h : Calm D) (hn : D.n = 2) (K : List (List UInt8)) (gen : Nat) : rgetD D K gen = rkeyB K gen (D.kept (rplace gen)) := by
  unfold rgetD
  rw [h.read (by rw [hn]; exact rplace_lt gen), if_neg (by simp)]
theorem rblank_calm {D : DS} (h : Calm D) (hn : D.n = 2) (gen : Nat) : rblankD D gen = (decide (D.kept (rplace gen) = blankS), 0) := by
  unfold rblankD
  rw [h.read (by rw [hn]; exact rplace_lt gen)]
  simp
theorem blankS_len : blankS.length = 512 := List.length_replicate
theorem rkey_blank (K : List (List UInt8)) (gen : Nat) : rkeyB K gen blankS = ([], 11) := by
  have h : decU K (rplace gen : Int) blankS = (7, secZero) := by
    unfold decU
    rw [if_neg (by rw [blankS_len]; simp), if_pos rfl]
  unfold rkeyB
  rw [h, if_neg (by simp)]
theorem blank_zeros : blankS = zeros := rfl

/-- What was put is read, by any suite that has seen as much. -/
theorem rkey_put {U V : List (List UInt8)} {gen : Nat} {key : List UInt8} (hk : key.length = 32) (hg : gen < 18446744073709551616) (hV : (encU U (rplace gen : Int) (rootS gen key)).2 <+: V) : rkeyB V gen (encU U (rplace gen : Int) (rootS gen key)).1 = (key, 0) := by
  unfold rkeyB
  rw [decU_enc (rootS_right gen hk) (by simp [rootS]) (by simpa [rootS] using hg) hV, if_pos ⟨rfl, rfl, rfl, rfl, rfl, hk⟩]
  rfl
/-- .. by its gen alone. -/
theorem rkey_other {U V : List (List UInt8)} {gen other : Nat} {key : List UInt8} (hk : key.length = 32) (hg : gen < 18446744073709551616) (hV : (encU U (rplace gen : Int) (rootS gen key)).2 <+: V) (ho : other ≠ gen) (hp : rplace other = rplace gen) :
    rkeyB V other (encU U (rplace gen : Int) (rootS gen key)).1 = ([], 11) := by
  unfold rkeyB
  rw [hp, decU_enc (rootS_right gen hk) (by simp [rootS]) (by simpa [rootS] using hg) hV, if_neg]
  rintro ⟨_, _, _, _, h, _⟩
  exact ho h.symm

/-- Settling a calm disk whose fuse is none: the other place is blank behind it. -/
theorem rset_calm {D : DS} (h : Calm D) (hn : D.n = 2) (hf : D.fuse = -1) (K : List (List UInt8)) (gen : Nat) {key : List UInt8} (hk : rkeyB K gen (D.kept (rplace gen)) = (key, 0)) :
    (rsetD D K gen).1 = (key, 0) ∧ (rsetD D K gen).2.kept = (fun q => if q = 1 - rplace gen then blankS else D.kept q) ∧ Calm (rsetD D K gen).2 ∧ (rsetD D K gen).2.n = 2 := by
  have hg := rget_calm h hn K gen
  rw [hk] at hg
  have hb := rblank_calm h hn (gen ^^^ 1)
  rw [rplace_xor] at hb
  unfold rsetD
  rw [hg, hb, if_neg (by simp), if_pos rfl]
  by_cases hbl : D.kept (1 - rplace gen) = blankS
  · rw [if_pos (by simpa using hbl)]
    refine ⟨rfl, ?_, h, hn⟩
    funext q
    simp only
    split
    · rename_i e; rw [e, hbl]
    · rfl
  · rw [if_neg (by simpa using hbl)]
    have hpl : rplace (gen ^^^ 1) < D.n := by rw [hn]; exact rplace_lt _
    have hs := stamp_calm h (by omega) hpl blankS_len
    unfold reraseD
    cases hs with
    | yes h0 hk hn' hc hf' =>
      rw [if_neg (by simp [h0])]
      refine ⟨rfl, ?_, hc, hn'.trans hn⟩
      simp only
      rw [hk, rplace_xor]
    | no h0 _ _ _ _ hf' => exact absurd hf hf'
theorem rset_bad {D : DS} (h : Calm D) (hn : D.n = 2) (K : List (List UInt8)) (gen : Nat) (hk : rkeyB K gen (D.kept (rplace gen)) = ([], 11)) : rsetD D K gen = (([], 11), D) := by
  have hg := rget_calm h hn K gen
  rw [hk] at hg
  unfold rsetD
  rw [hg, if_pos (by decide)]

/-- Putting where all is calm and the power stays. -/
theorem rput_calm {D : DS} (h : Calm D) (hn : D.n = 2) (hf : D.fuse = -1) (U : List (List UInt8)) (gen : Nat) {key : List UInt8} (hk : key.length = 32) :
    ∃ D1, rputD D U gen key = (0, D1, (encU U (rplace gen : Int) (rootS gen key)).2) ∧ D1.kept = (fun q => if q = rplace gen then (encU U (rplace gen : Int) (rootS gen key)).1 else D.kept q) ∧ Calm D1 ∧ D1.n = 2 ∧ D1.fuse = -1 := by
  have hs := stamp_calm h (by omega) (p := rplace gen) (by rw [hn]; exact rplace_lt gen) (encU_length U (rplace gen : Int) (rootS gen key))
  unfold rputD
  rw [if_neg (by simp [hk])]
  cases hs with
  | yes h0 hk hn' hc hf' => exact ⟨_, by rw [h0], hk, hc, hn'.trans hn, hf' hf⟩
  | no _ _ _ _ _ hf' => exact absurd hf hf'
theorem rerase_calm {D : DS} (h : Calm D) (hn : D.n = 2) (hf : D.fuse = -1) (gen : Nat) :
    ∃ D1, reraseD D gen = (0, D1) ∧ D1.kept = (fun q => if q = rplace gen then blankS else D.kept q) ∧ Calm D1 ∧ D1.n = 2 ∧ D1.fuse = -1 := by
  have hs := stamp_calm h (by omega) (p := rplace gen) (by rw [hn]; exact rplace_lt gen) blankS_len
  unfold reraseD
  cases hs with
  | yes h0 hk hn' hc hf' => exact ⟨_, Prod.ext h0 rfl, hk, hc, hn'.trans hn, hf' hf⟩
  | no _ _ _ _ _ hf' => exact absurd hf hf'
theorem rputD_few {D : DS} {q : Nat} (h : Few D q) (U : List (List UInt8)) (gen : Nat) (key : List UInt8) : Few (rputD D U gen key).2.1 (q + 2) := by
  unfold rputD
  split
  · exact h.mono (by omega)
  · exact h.stamp _ _
theorem rputD_room (D : DS) (U : List (List UInt8)) (gen : Nat) (key : List UInt8) : (rputD D U gen key).2.2.length ≤ U.length + 1 := by
  unfold rputD
  split
  · simp
  · exact sumU_length U _

end Go.Proofs.Ytdjndeleafhglaa
namespace Go.Proofs.Ytdjndeleafhglaa

def gLeast (a d : Int) : Int := if a < 2 ∨ 4 < a ∨ d < 1 ∨ 3 < d then 0 else d + 2
def gRight (a d l : Int) : Bool := decide (2 ≤ a ∧ a ≤ 4 ∧ 1 ≤ d ∧ d ≤ 3 ∧ d + 2 ≤ l ∧ l ≤ 64)
def gNod (a : Int) : Nat → Int
  | 0 => 0
  | k + 1 => gNod a k + a ^ k
def gNodes (a d l : Int) : Int := if gRight a d l = true then gNod a d.toNat else 0
def gLeaves (a d l : Int) : Int := if gRight a d l = true then a ^ d.toNat else 0
def gPages (a d l : Int) : Int := gNodes a d l + gLeaves a d l
def gSize (a d l : Int) : Int := if gRight a d l = true then 4 + l + 2 * gPages a d l else 0
def gLog (a d l i : Int) : Int := if gRight a d l = false ∨ i < 0 then -1 else 4 + i % l
def gArea (a d l : Int) (n i : Int) : Int := if i < 0 ∨ gPages a d l ≤ i then -1 else 4 + l + n % 2 * gPages a d l + i

theorem gRight_iff {a d l : Int} : gRight a d l = true ↔ 2 ≤ a ∧ a ≤ 4 ∧ 1 ≤ d ∧ d ≤ 3 ∧ d + 2 ≤ l ∧ l ≤ 64 := by simp [gRight]
theorem gRight_no {a d l : Int} : gRight a d l = false ↔ ¬ (2 ≤ a ∧ a ≤ 4 ∧ 1 ≤ d ∧ d ≤ 3 ∧ d + 2 ≤ l ∧ l ≤ 64) := by simp [gRight]

theorem gPow_bd {a : Int} (h2 : 2 ≤ a) (h4 : a ≤ 4) : ∀ k : Nat, k ≤ 3 → 1 ≤ a ^ k ∧ a ^ k ≤ 64 := by
  intro k hk
  obtain rfl | rfl | rfl : a = 2 ∨ a = 3 ∨ a = 4 := by omega
  all_goals
    match k, hk with
    | 0, _ => decide
    | 1, _ => decide
    | 2, _ => decide
    | 3, _ => decide

theorem gNod_bd {a : Int} (h2 : 2 ≤ a) (h4 : a ≤ 4) : ∀ k : Nat, k ≤ 3 → 0 ≤ gNod a k ∧ gNod a k ≤ 21 := by
  intro k hk
  obtain rfl | rfl | rfl : a = 2 ∨ a = 3 ∨ a = 4 := by omega
  all_goals
    match k, hk with
    | 0, _ => decide
    | 1, _ => decide
    | 2, _ => decide
    | 3, _ => decide

theorem gNod_pos {a : Int} (h2 : 2 ≤ a) (h4 : a ≤ 4) : ∀ k : Nat, 1 ≤ k → k ≤ 3 → 1 ≤ gNod a k := by
  intro k h1 hk
  obtain rfl | rfl | rfl : a = 2 ∨ a = 3 ∨ a = 4 := by omega
  all_goals
    match k, hk with
    | 0, _ => omega
    | 1, _ => decide
    | 2, _ => decide
    | 3, _ => decide

theorem gNodes_bd (a d l : Int) : 0 ≤ gNodes a d l ∧ gNodes a d l ≤ 21 := by
  unfold gNodes
  split
  · rename_i h
    obtain ⟨h2, h4, h1, h3, _⟩ := gRight_iff.1 h
    exact gNod_bd h2 h4 _ (by omega)
  · omega
theorem gLeaves_bd (a d l : Int) : 0 ≤ gLeaves a d l ∧ gLeaves a d l ≤ 64 := by
  unfold gLeaves
  split
  · rename_i h
    obtain ⟨h2, h4, h1, h3, _⟩ := gRight_iff.1 h
    have := gPow_bd h2 h4 d.toNat (by omega)
    omega
  · omega
theorem gPages_bd (a d l : Int) : 0 ≤ gPages a d l ∧ gPages a d l ≤ 85 := by
  have h1 := gNodes_bd a d l
  have h2 := gLeaves_bd a d l
  unfold gPages; omega
theorem gPages_no {a d l : Int} (h : gRight a d l = false) : gPages a d l = 0 := by simp [gPages, gNodes, gLeaves, h]
theorem gPages_pos {a d l : Int} (h : gRight a d l = true) : 2 ≤ gPages a d l := by
  obtain ⟨h2, h4, h1, h3, _⟩ := gRight_iff.1 h
  have e1 := gNod_pos h2 h4 d.toNat (by omega) (by omega)
  have e2 := gPow_bd h2 h4 d.toNat (by omega)
  simp only [gPages, gNodes, gLeaves, h, if_true]; omega
theorem gSize_bd (a d l : Int) : 0 ≤ gSize a d l ∧ gSize a d l ≤ 238 := by
  have h1 := gPages_bd a d l
  unfold gSize
  split
  · rename_i h
    obtain ⟨h2, h4, h1, h3, _⟩ := gRight_iff.1 h
    omega
  · omega
theorem gSize_yes {a d l : Int} (h : gRight a d l = true) : gSize a d l = 4 + l + 2 * gPages a d l := by simp [gSize, h]
theorem gSize_no {a d l : Int} (h : gRight a d l = false) : gSize a d l = 0 := by simp [gSize, h]
theorem gLeast_right (a d l : Int) : (0 < gLeast a d ∧ gLeast a d ≤ l ∧ l ≤ 64) ↔ gRight a d l = true := by
  rw [gRight_iff]; unfold gLeast; split <;> omega
theorem gLeast_bd (a d : Int) : 0 ≤ gLeast a d ∧ gLeast a d ≤ 5 := by unfold gLeast; split <;> omega

/-- What stands at a place: 0 the root, 1 the super, 2 the log, 3 the area, 4 nothing; and which one. -/
def gWhere (a d l p : Int) : Int × Int :=
  if p < 0 ∨ gSize a d l ≤ p then (4, 0) else if p < 2 then (0, p) else if p < 4 then (1, p - 2) else if p < 4 + l then (2, p - 4) else (3, p - 4 - l)

end Go.Proofs.Ytdjndeleafhglaa
namespace Go.Proofs.Ytdjndeleafhglaa
open Go.RowKit

set_option maxHeartbeats 400000 in
theorem Least_any (a d l : Int) (w : World) :
    Calls Try.prog 26 #[.agg #[.int .i64 a, .int .i64 d, .int .i64 l]] w fun e w' => e = .returned (.int .i64 (gLeast a d)) ∧ Below w.heap.size w w' := by
  go_enter Try.func26, Try.ntmps26
  go_wp2
  all_goals
    go_ret
    exact ⟨ret_int (by unfold gLeast; first | rw [if_pos (by omega)] | (rw [if_neg (by omega)])), Bbox _ _⟩

set_option maxHeartbeats 400000 in
theorem RLeast_any (a d l : Int) (w : World) :
    Calls Try.prog 27 #[.agg #[.int .i64 a, .int .i64 d, .int .i64 l]] w fun e w' => e = .returned (.int .i64 (gLeast a d)) ∧ Below w.heap.size w w' := by
  go_enter Try.func27, Try.ntmps27
  go_wp2
  all_goals
    go_ret
    exact ⟨ret_int (by unfold gLeast; first | rw [if_pos (by omega)] | (rw [if_neg (by omega)])), Bbox _ _⟩

set_option maxHeartbeats 400000 in
theorem Right_any (a d l : Int) (w : World) :
    Calls Try.prog 24 #[.agg #[.int .i64 a, .int .i64 d, .int .i64 l]] w fun e w' => e = .returned (.bool (gRight a d l)) ∧ Below w.heap.size w w' := by
  have key : ∀ b : Bool, (b = true ↔ (0 < gLeast a d ∧ gLeast a d ≤ l ∧ l ≤ 64)) → b = gRight a d l := fun b h => by rw [Bool.eq_iff_iff, h]; exact gLeast_right a d l
  have Hkey := Lib.hid key; clear key
  go_enter Try.func24, Try.ntmps24
  go_wp2_with (go_at_call 26; refine (Least_any _ _ _ _).mono ?_; rintro e w1 ⟨rfl, hb⟩; obtain ⟨hc, hf⟩ := bcell hb)
  all_goals
    go_ret
    exact ⟨ret_bool (Hkey.out _ (by simp; omega)), Bthen (Bbox _ _) hb⟩

set_option maxHeartbeats 400000 in
theorem RRight_any (a d l : Int) (w : World) :
    Calls Try.prog 25 #[.agg #[.int .i64 a, .int .i64 d, .int .i64 l]] w fun e w' => e = .returned (.bool (gRight a d l)) ∧ Below w.heap.size w w' := by
  have key : ∀ b : Bool, (b = true ↔ (0 < gLeast a d ∧ gLeast a d ≤ l ∧ l ≤ 64)) → b = gRight a d l := fun b h => by rw [Bool.eq_iff_iff, h]; exact gLeast_right a d l
  have Hkey := Lib.hid key; clear key
  have hcw := @BW.cell
  by_cases h1 : 0 < gLeast a d
  · by_cases h2 : gLeast a d ≤ l
    · go_enter Try.func25, Try.ntmps25
      go_wp2
      refine wp_region_below (by kernel_rfl) (by kernel_rfl) ?_
      repeat (quiet_step ((go_at_call 27; exact below_of (RLeast_any _ _ _ _))))
      refine wpQuiet_nil ?_
      rintro _ ⟨x, rfl⟩
      go_wp2
      go_ret
      exact ⟨ret_bool (Hkey.out _ (by simp; try omega)), x.then (Bbox _ _)⟩
    · have d2 : decide (gLeast a d ≤ l) = false := by simpa using h2
      go_enter Try.func25, Try.ntmps25
      go_wp2
      refine wp_region_below (by kernel_rfl) (by kernel_rfl) ?_
      repeat (quiet_step ((go_at_call 27; exact below_of (RLeast_any _ _ _ _))))
      refine wpQuiet_nil ?_
      rintro _ ⟨x, rfl⟩
      go_wp2
      go_ret
      exact ⟨ret_bool (Hkey.out _ (by simp; try omega)), x.then (Bbox _ _)⟩
  · have d1 : decide (0 < gLeast a d) = false := by simpa using h1
    go_enter Try.func25, Try.ntmps25
    go_wp2
    refine wp_region_below (by kernel_rfl) (by kernel_rfl) ?_
    repeat (quiet_step ((go_at_call 27; exact below_of (RLeast_any _ _ _ _))))
    refine wpQuiet_nil ?_
    rintro _ ⟨x, rfl⟩
    go_wp2
    go_ret
    exact ⟨ret_bool (Hkey.out _ (by simp; try omega)), x.then (Bbox _ _)⟩

set_option maxHeartbeats 400000 in
theorem levels_no (a d l : Int) (w : World) (hr : gRight a d l = false) :
    Calls Try.prog 129 #[.agg #[.int .i64 a, .int .i64 d, .int .i64 l]] w fun e w' => e = .returned (.tuple #[.int .i64 0, .int .i64 0]) ∧ Below w.heap.size w w' := by
  go_enter Try.func129, Try.ntmps129
  go_wp2_with (go_at_call 24; refine (Right_any _ _ _ _).mono ?_; rintro e w1 ⟨rfl, hb⟩; obtain ⟨hc, hf⟩ := bcell hb)
  go_ret2
  exact ⟨rfl, Bthen (Bbox _ _) hb⟩

set_option maxHeartbeats 400000 in
theorem levels_yes (a d l : Int) (w : World) (hr : gRight a d l = true) :
    Calls Try.prog 129 #[.agg #[.int .i64 a, .int .i64 d, .int .i64 l]] w fun e w' => e = .returned (.tuple #[.int .i64 (gNod a d.toNat), .int .i64 (a ^ d.toNat)]) ∧ Below w.heap.size w w' := by
  obtain ⟨h2, h4, h1, h3, _⟩ := gRight_iff.1 hr
  go_enter Try.func129, Try.ntmps129
  go_wp2_with (go_at_call 24; refine (Right_any _ _ _ _).mono ?_; rintro e w1 ⟨rfl, hb⟩; obtain ⟨hc, hf⟩ := bcell hb)
  go_loop [2, 3, 9] (fun n m i => ∃ k : Nat, (k : Int) ≤ d ∧ i = .int .i64 k ∧ n = .int .i64 (gNod a k) ∧ m = .int .i64 (a ^ k)) (fun _ _ i => (d - intOf i).toNat)
  case atStart => exact ⟨0, by omega, rfl, rfl, by rw [Int.pow_zero]⟩
  case round =>
    obtain ⟨k, hk, rfl, rfl, rfl⟩ := hrel
    have b1 := gNod_bd h2 h4 k (by omega)
    have b2 := gPow_bd h2 h4 k (by omega)
    by_cases hlt : (k : Int) < d
    · have b3 := gPow_bd h2 h4 (k + 1) (by omega)
      rw [Int.pow_succ] at b3
      obtain ⟨b4, b5⟩ := b3
      go_wp2
      go_round
      case rel => exact ⟨k + 1, by omega, by go_num, rfl, by rw [Int.pow_succ]⟩
      case measure => simp [intOf]; omega
    · have hkd : d.toNat = k := by omega
      go_wp2
      go_ret2
      exact ⟨ret_ii rfl rfl, Bthen (Bbox _ _) hb⟩

/-- Both answers of 'levels' at once. -/
theorem levels_any (a d l : Int) (w : World) :
    Calls Try.prog 129 #[.agg #[.int .i64 a, .int .i64 d, .int .i64 l]] w fun e w' => e = .returned (.tuple #[.int .i64 (gNodes a d l), .int .i64 (gLeaves a d l)]) ∧ Below w.heap.size w w' := by
  cases hr : gRight a d l with
  | true => exact (levels_yes a d l w hr).mono fun e w' ⟨h, hb⟩ => ⟨by rw [h]; simp [gNodes, gLeaves, hr], hb⟩
  | false => exact (levels_no a d l w hr).mono fun e w' ⟨h, hb⟩ => ⟨by rw [h]; simp [gNodes, gLeaves, hr], hb⟩

set_option maxHeartbeats 400000 in
theorem Nodes_any (a d l : Int) (w : World) :
    Calls Try.prog 28 #[.agg #[.int .i64 a, .int .i64 d, .int .i64 l]] w fun e w' => e = .returned (.int .i64 (gNodes a d l)) ∧ Below w.heap.size w w' := by
  have b1 := gNodes_bd a d l
  have b2 := gLeaves_bd a d l
  go_enter Try.func28, Try.ntmps28
  go_wp2_with (go_at_call 129; refine (levels_any _ _ _ _).mono ?_; rintro e w1 ⟨rfl, hb⟩)
  go_ret
  exact ⟨ret_int rfl, Bthen (Bbox _ _) hb⟩

set_option maxHeartbeats 400000 in
theorem Leaves_any (a d l : Int) (w : World) :
    Calls Try.prog 30 #[.agg #[.int .i64 a, .int .i64 d, .int .i64 l]] w fun e w' => e = .returned (.int .i64 (gLeaves a d l)) ∧ Below w.heap.size w w' := by
  have b1 := gNodes_bd a d l
  have b2 := gLeaves_bd a d l
  go_enter Try.func30, Try.ntmps30
  go_wp2_with (go_at_call 129; refine (levels_any _ _ _ _).mono ?_; rintro e w1 ⟨rfl, hb⟩)
  go_ret
  exact ⟨ret_int rfl, Bthen (Bbox _ _) hb⟩

set_option maxHeartbeats 400000 in
theorem Pages_any (a d l : Int) (w : World) :
    Calls Try.prog 32 #[.agg #[.int .i64 a, .int .i64 d, .int .i64 l]] w fun e w' => e = .returned (.int .i64 (gPages a d l)) ∧ Below w.heap.size w w' := by
  have b1 := gNodes_bd a d l
  have b2 := gLeaves_bd a d l
  go_enter Try.func32, Try.ntmps32
  go_wp2_with (go_at_call 129; refine (levels_any _ _ _ _).mono ?_; rintro e w1 ⟨rfl, hb⟩)
  go_ret
  exact ⟨ret_int rfl, Bthen (Bbox _ _) hb⟩

set_option maxHeartbeats 400000 in
theorem parts_any (a d l : Int) (w : World) :
    Calls Try.prog 130 #[.agg #[.int .i64 a, .int .i64 d, .int .i64 l]] w fun e w' => e = .returned (.agg #[.string ⟨#[114, 111, 111, 116]⟩, .int .i64 2, .string ⟨#[115, 117, 112, 101, 114]⟩, .int .i64 2, .string ⟨#[108, 111, 103]⟩, .int .i64 l, .string ⟨#[97, 114, 101, 97]⟩, .int .i64 (2 * gPages a d l)]) ∧ Below w.heap.size w w' := by
  have b1 := gPages_bd a d l
  have hw2 : IntKind.i64.wrap (2 * gPages a d l) = 2 * gPages a d l := IntWalk.i64_in _ (by omega)
  go_enter Try.func130, Try.ntmps130
  go_wp2
  refine wp_region_in (BelowW _) [(0, true), (1, true), (2, true), (3, true), (4, true), (5, true), (6, false), (7, true), (8, true), (9, true), (10, false)] (by kernel_rfl) (by kernel_rfl) (fun _ _ _ _ _ h => h) (inB_drew _) (fun hne => ?_)
  have hcx := @inB_cell
  simp only [permOps, List.map_cons, List.map_nil, List.getD_cons_zero, List.getD_cons_succ]
  (repeat ((with_reducible refine wpPerm_F ?_); intro K hK; go_simp; refine hK _ _ ?_; clear hK K))
  (with_reducible refine wpPerm_E rfl ?_); intro K hK
  go_wp2_with (go_at_call 32; refine (Pages_any _ _ _ _).mono ?_; rintro e w1 ⟨rfl, hb⟩)
  refine ⟨inB_step (inB_drew _) hb, ?_⟩
  obtain ⟨hc, hf⟩ := bcell hb
  (repeat ((with_reducible refine wpPerm_F ?_); intro K hK; go_simp; refine hK _ _ ?_; clear hK K))
  (with_reducible refine wpPerm_L rfl ?_); intro K hK
  clear hcx hw2
  go_wp2
  have hz := hb.size
  refine bodyPost_ret (v := .agg #[.string ⟨#[114, 111, 111, 116]⟩, .int .i64 2, .string ⟨#[115, 117, 112, 101, 114]⟩, .int .i64 2, .string ⟨#[108, 111, 103]⟩, .int .i64 l, .string ⟨#[97, 114, 101, 97]⟩, .int .i64 (2 * gPages a d l)]) ?_ rfl ⟨rfl, ?_⟩
  · simp [results, Try.results130, go_sem, hc]
  · ((repeat (first | (with_reducible exact Bnil _) | (with_reducible assumption) | (with_reducible refine Bset ?_ ?_ _) | (with_reducible refine Bnew ?_ _) | (with_reducible refine Bdrew ?_) | (with_reducible refine Bthen ?_ (by assumption)))); all_goals (simp; try omega))

end Go.Proofs.Ytdjndeleafhglaa
namespace Go.Proofs.Ytdjndeleafhglaa
open Go.RowKit

theorem part0 (l q : Int) (w : World) : (Instr.index 166 (.agg #[.string ⟨#[114, 111, 111, 116]⟩, .int .i64 2, .string ⟨#[115, 117, 112, 101, 114]⟩, .int .i64 2, .string ⟨#[108, 111, 103]⟩, .int .i64 l, .string ⟨#[97, 114, 101, 97]⟩, .int .i64 q]) (.int .i64 0)).run Try.prog w = .ok (.agg #[.string ⟨#[114, 111, 111, 116]⟩, .int .i64 2]) w := by kernel_rfl
theorem part1 (l q : Int) (w : World) : (Instr.index 166 (.agg #[.string ⟨#[114, 111, 111, 116]⟩, .int .i64 2, .string ⟨#[115, 117, 112, 101, 114]⟩, .int .i64 2, .string ⟨#[108, 111, 103]⟩, .int .i64 l, .string ⟨#[97, 114, 101, 97]⟩, .int .i64 q]) (.int .i64 1)).run Try.prog w = .ok (.agg #[.string ⟨#[115, 117, 112, 101, 114]⟩, .int .i64 2]) w := by kernel_rfl
theorem part2 (l q : Int) (w : World) : (Instr.index 166 (.agg #[.string ⟨#[114, 111, 111, 116]⟩, .int .i64 2, .string ⟨#[115, 117, 112, 101, 114]⟩, .int .i64 2, .string ⟨#[108, 111, 103]⟩, .int .i64 l, .string ⟨#[97, 114, 101, 97]⟩, .int .i64 q]) (.int .i64 2)).run Try.prog w = .ok (.agg #[.string ⟨#[108, 111, 103]⟩, .int .i64 l]) w := by kernel_rfl
theorem part3 (l q : Int) (w : World) : (Instr.index 166 (.agg #[.string ⟨#[114, 111, 111, 116]⟩, .int .i64 2, .string ⟨#[115, 117, 112, 101, 114]⟩, .int .i64 2, .string ⟨#[108, 111, 103]⟩, .int .i64 l, .string ⟨#[97, 114, 101, 97]⟩, .int .i64 q]) (.int .i64 3)).run Try.prog w = .ok (.agg #[.string ⟨#[97, 114, 101, 97]⟩, .int .i64 q]) w := by kernel_rfl

set_option maxHeartbeats 400000 in
theorem Size_no (a d l : Int) (w : World) (hr : gRight a d l = false) :
    Calls Try.prog 34 #[.agg #[.int .i64 a, .int .i64 d, .int .i64 l]] w fun e w' => e = .returned (.int .i64 0) ∧ Below w.heap.size w w' := by
  go_enter Try.func34, Try.ntmps34
  go_wp2_with (go_at_call 24; refine (Right_any _ _ _ _).mono ?_; rintro e w1 ⟨rfl, hb⟩; obtain ⟨hc, hf⟩ := bcell hb)
  go_ret
  exact ⟨ret_int rfl, Bthen (Bbox _ _) hb⟩

set_option maxHeartbeats 1000000 in
theorem Size_yes (a d l : Int) (w : World) (hr : gRight a d l = true) :
    Calls Try.prog 34 #[.agg #[.int .i64 a, .int .i64 d, .int .i64 l]] w fun e w' => e = .returned (.int .i64 (4 + l + 2 * gPages a d l)) ∧ Below w.heap.size w w' := by
  have b1 := gPages_bd a d l
  obtain ⟨h2, h4, h1, h3, _⟩ := gRight_iff.1 hr
  go_enter Try.func34, Try.ntmps34
  go_wp2_with (go_at_call 24; refine (Right_any _ _ _ _).mono ?_; rintro e w1 ⟨rfl, hb⟩; obtain ⟨hc, hf⟩ := bcell hb)
  refine (parts_any _ _ _ _).mono ?_
  rintro e w2 ⟨rfl, hb2⟩
  have hs2 := hb2.size
  have hs1 := hb.size
  have i0 := part0 l (2 * gPages a d l)
  have i1 := part1 l (2 * gPages a d l)
  have i2 := part2 l (2 * gPages a d l)
  have i3 := part3 l (2 * gPages a d l)
  go_wp2_with fail
  refine wp_loop_rounds 5 ?_
  iterate 5 (rw [rounds_succ]; go_wp2_with fail)
  go_ret
  exact ⟨ret_int (by omega), by ((repeat (first | (with_reducible exact Bnil _) | (with_reducible assumption) | (with_reducible refine Bset ?_ ?_ _) | (with_reducible refine Bnew ?_ _) | (with_reducible refine Bdrew ?_) | (with_reducible refine Bthen ?_ (by assumption)))); all_goals (simp; try omega))⟩

theorem Size_any (a d l : Int) (w : World) :
    Calls Try.prog 34 #[.agg #[.int .i64 a, .int .i64 d, .int .i64 l]] w fun e w' => e = .returned (.int .i64 (gSize a d l)) ∧ Below w.heap.size w w' := by
  cases hr : gRight a d l with
  | true => rw [gSize_yes hr]; exact Size_yes a d l w hr
  | false => rw [gSize_no hr]; exact Size_no a d l w hr

set_option maxHeartbeats 400000 in
theorem Root_any (n : Int) (w : World) (h0 : 0 ≤ n) (h1 : n < 18446744073709551616) :
    Calls Try.prog 37 #[.int .u64 n] w fun e w' => e = .returned (.int .i64 (n % 2)) ∧ w = w' := by
  go_enter Try.func37, Try.ntmps37
  go_wp2
  go_ret
  exact ⟨ret_int (by go_num), rfl⟩

set_option maxHeartbeats 400000 in
theorem Super_any (n : Int) (w : World) (h0 : 0 ≤ n) (h1 : n < 18446744073709551616) :
    Calls Try.prog 38 #[.int .u64 n] w fun e w' => e = .returned (.int .i64 (2 + n % 2)) ∧ w = w' := by
  go_enter Try.func38, Try.ntmps38
  go_wp2
  go_ret
  exact ⟨ret_int (by go_num), rfl⟩

end Go.Proofs.Ytdjndeleafhglaa
