/-
  What must come at any rate, of disks: the law's alive.
-/
import Derived.Test.YtdjndeleafhglaaLawD
import Derived.Test.YtdjndeleafhglaaDsk8
namespace Go.Proofs.Ytdjndeleafhglaa
open Go.RowKit

def sevenB : List UInt8 := 7 :: List.replicate 511 0
theorem sevenB_len : sevenB.length = 512 := by rw [sevenB, List.length_cons, List.length_replicate]
theorem sevenB_get (j : Nat) (h : 0 < j) (h2 : j < 512) : (bytesV sevenB)[j]? = some (.int .u8 0) := by
  obtain ⟨k, rfl⟩ : ∃ k, j = k + 1 := ⟨j - 1, by omega⟩
  unfold bytesV sevenB
  rw [List.map_cons, List.getElem?_cons_succ, List.map_replicate, List.getElem?_replicate, if_pos (by omega)]
  rfl

/-- Below, where what was written lies above. -/
theorem Frame.low {S : Nat → Prop} {w w' : World} {B : Nat} (h : Frame S w w') (hS : ∀ k, S k → B ≤ k) (hB : B ≤ w.heap.size) : Below B w w' := h.below hS hB

set_option maxRecDepth 100000 in
set_option maxHeartbeats 2000000 in
theorem alive19_any (w : World) : Calls Try.prog 46 #[] w fun e w' => e = .returned (.bool true) ∧ Below w.heap.size w w' := by
  obtain ⟨i0, hi, hiz, his, hib⟩ := info_parts info_byte
  go_enter Try.func46, Try.ntmps46
  go_wp2_with fail
  refine (New_yes 2 w (by decide) (by decide)).mono ?_
  rintro e w1 ⟨rfl, hd1, hb1⟩
  have hmk := run_make (P := Try.prog) w1 41 5 i0 _ Try.underlying41 hi hiz .i64 .i64 (512 : Int) (512 : Int) (by omega) (by omega) (by rw [hib]; omega) (by omega)
  rw [his] at hmk
  have hCs : (madeCells (Value.int .u8 0).cells 512).size = 512 := size_madeCells _ _
  have hCg : ∀ j, j < 512 → (madeCells (Value.int .u8 0).cells 512)[j]? = some (.int .u8 0) := fun j hj => by simp [madeCells, hj, Value.cells, Nat.mod_one]
  simp only [show (512 : Int).toNat = 512 from rfl] at hmk
  generalize madeCells (Value.int .u8 0).cells 512 = C at hmk hCs hCg
  have HCs := Lib.hid hCs
  have HCg := Lib.hid hCg; clear hCg
  have Hd1 := Lib.hid hd1; clear hd1
  obtain ⟨v0, hv0⟩ : ∃ v, C[0]? = some v := ⟨_, Array.getElem?_eq_getElem (by omega)⟩
  have Hv0 := Lib.hid hv0
  have hcc : (w1.alloc (.cells C 5)).cell? ⟨w1.heap.size, 0, none⟩ = some v0 := by rw [cell_of_row _ _ _ _ _ _ (heap_alloc_new w1 _)]; exact hv0
  clear hCs hv0
  go_wp2_with fail
  have hC7 : C.setIfInBounds 0 (.int .u8 7) = (bytesV sevenB).toArray := by
    apply Array.ext_getElem?
    intro j
    by_cases hj : j < 512
    · by_cases h0 : j = 0
      · subst h0
        rw [Array.getElem?_setIfInBounds_self, if_pos (by rw [HCs.out]; decide)]
        rfl
      · rw [Array.getElem?_setIfInBounds_ne (by omega), HCg.out j hj, List.getElem?_toArray, sevenB_get j (by omega) hj]
    · rw [Array.getElem?_eq_none (by rw [Array.size_setIfInBounds, HCs.out]; omega), List.getElem?_toArray, List.getElem?_eq_none (by rw [bytesV_length, sevenB_len]; omega)]
  rw [hC7]
  obtain ⟨bk, pv, av, H, h1⟩ := Hd1.out
  have hb2 : Below w.heap.size w (w1.alloc (.cells (bytesV sevenB).toArray 5)) := Bnew hb1 _
  have h2 := h1.below (Bbox w1 (.cells (bytesV sevenB).toArray 5))
  have hr2 : (w1.alloc (.cells (bytesV sevenB).toArray 5)).rangeAt w1.heap.size 0 (bytesV sevenB) := fun j v hv => by
    rw [Nat.zero_add, cell_of_row _ _ _ _ _ _ (heap_alloc_new w1 _)]; simpa using hv
  have hl1 := h1.ltS _ (.inr rfl)
  generalize w1.alloc (.cells (bytesV sevenB).toArray 5) = w2 at hb2 h2 hr2 ⊢
  have e3 : burnD { newD 2 with pend := (newD 2).pend ++ [(1, sevenB)] } = (0, ⟨2, fun _ => zeros, [(1, sevenB)], [], -1, 1, false⟩) := rfl
  have hw := Write_yes 1 w1.heap.size 0 512 sevenB h2 rfl (by decide) sevenB_len hr2 (by omega) (by decide) (by decide)
  rw [e3] at hw
  clear e3 hC7 hcc hmk h1 hr2
  refine hw.mono ?_
  rintro e w3 ⟨rfl, S3, pv3, h3, hf3, hS3⟩
  have hz2 := hb2.size
  have hL3 : ∀ k, S3 k → w.heap.size ≤ k := fun k hk => by rcases hS3 k hk with (h | h) | h <;> omega
  have hb3 : Below w.heap.size w w3 := hb2.trans (hf3.low (fun k hk => by rcases hk with h | h <;> omega) hz2)
  clear hw h2 hf3 hS3 hb2
  have e4 : burnD ⟨2, fun _ => zeros, [(1, sevenB)], [], -1, 1, false⟩ = (0, ⟨2, fun _ => zeros, [(1, sevenB)], [], -1, 2, false⟩) := rfl
  have hfl := Flush_yes h3 rfl (by decide) (by rw [e4]) (by decide)
  have e5 : wipeD (keepAll (burnD ⟨2, fun _ => zeros, [(1, sevenB)], [], -1, 1, false⟩).2 [(1, sevenB)]) = ⟨2, fun q => if q = 1 then sevenB else zeros, [], [(1, sevenB)], -1, 2, false⟩ := rfl
  simp only [e5] at hfl
  have Hfl := Lib.hid hfl
  clear e4 e5 hfl h3
  go_wp2_with fail
  refine Hfl.out.mono ?_
  rintro e w4 ⟨rfl, S4, pv4, av4, H4, h4, hf4, hS4⟩
  have hz3 := hb3.size
  have hL4 : ∀ k, S4 k → w.heap.size ≤ k := fun k hk => by
    rcases hS4 k hk with h | h
    · exact hL3 k h
    · omega
  have hb4 : Below w.heap.size w w4 := hb3.trans (hf4.low hL3 hz3)
  clear hf4 hS4 Hfl hb3
  have hre := Restart_any none 0 0 (-1) 0 [] h4 ⟨rfl, fun h => by omega⟩ (fun _ g o h => by cases h) (by decide) (by decide)
  have e6 : restD ⟨2, fun q => if q = 1 then sevenB else zeros, [], [(1, sevenB)], -1, 2, false⟩ [] (-1) 0 = ⟨2, fun q => if q = 1 then sevenB else zeros, [], [(1, sevenB)], -1, 2, false⟩ := rfl
  rw [e6] at hre
  have Hre := Lib.hid hre
  clear e6 hre h4
  go_wp2_with fail
  refine Hre.out.mono ?_
  rintro e w5 ⟨rfl, S5, pv5, av5, H5, h5, hf5, hS5⟩
  have hz4 := hb4.size
  have hb5 : Below w.heap.size w w5 := hb4.trans (hf5.low hL4 hz4)
  clear hf5 hS5 Hre hb4
  have hke := Kept_yes 1 h5 (by decide)
  have Hke := Lib.hid hke
  clear hke h5
  go_wp2_with fail
  refine Hke.out.mono ?_
  rintro e w6 ⟨rfl, hk6, hb6⟩
  have hc7 : w6.cell? ⟨w5.heap.size, 0, none⟩ = some (.int .u8 7) := by
    rw [cell_of_row _ _ _ _ _ _ hk6]; rfl
  have hb7 : Below w.heap.size w w6 := Bthen hb5 hb6
  clear hk6 Hke hb5 hb6
  go_wp2_with fail
  go_ret
  exact ⟨rfl, hb7⟩

end Go.Proofs.Ytdjndeleafhglaa
