/-
  The law's full: so many bytes, all alike.
-/
import Derived.Test.YtdjndeleafhglaaRefA
namespace Go.Proofs.Ytdjndeleafhglaa
open Go.RowKit

set_option maxRecDepth 100000 in
set_option maxHeartbeats 1000000 in
theorem full_any (n : Nat) (c : UInt8) (w : World) (hn : n ≤ 1000000) :
    Calls Try.prog 49 #[.int .i64 (n : Int), .int .u8 (c.toNat : Int)] w fun e w' => e = .returned (.slice (some ⟨w.heap.size, 0, none⟩) n n) ∧ w'.heap[w.heap.size]? = some (.cells (bytesV (List.replicate n c)).toArray 5 (0, 0)) ∧ Below w.heap.size w w' := by
  obtain ⟨i0, hi, hiz, his, hib⟩ := info_parts info_byte
  have hmk := run_make (P := Try.prog) w 41 5 i0 _ Try.underlying41 hi hiz .i64 .i64 (n : Int) (n : Int) (by omega) (by omega) (by rw [hib]; omega) (by omega)
  rw [his, Int.toNat_natCast, Nat.mul_one] at hmk
  have hCs : (madeCells (Value.int .u8 0).cells n).size = n := size_madeCells _ _
  generalize madeCells (Value.int .u8 0).cells n = C at hmk hCs
  have HCs := Lib.hid hCs; clear hCs
  go_enter Try.func49, Try.ntmps49
  go_wp2_with fail
  go_loopw [6] (fun i wr => ∃ k : Nat, k ≤ n ∧ i = .int .i64 k ∧ ∃ X : Array Value, X.size = n ∧ wr.heap[w.heap.size]? = some (.cells X 5 (0, 0)) ∧ (∀ j, j < k → X[j]? = some (.int .u8 (c.toNat : Int))) ∧ Below w.heap.size w wr) (fun i _ => n - (intOf i).toNat)
  case atStart => exact ⟨0, by omega, rfl, C, HCs.out, heap_alloc_new w _, (fun j hj => by omega), by ((repeat (first | (with_reducible exact Bnil _) | (with_reducible assumption) | (with_reducible refine Bset ?_ ?_ _) | (with_reducible refine Bnew ?_ _) | (with_reducible refine Bdrew ?_) | (with_reducible refine Bthen ?_ (by assumption)))); all_goals (simp; try omega))⟩
  case round =>
    obtain ⟨k, hk, rfl, X, hXs, hX, hXj, hbel⟩ := hrel
    have hzr := hbel.size
    have HXs := Lib.hid hXs; clear hXs
    have HXj := Lib.hid hXj; clear hXj
    have hzl := blk_lt hX
    by_cases hlt : k < n
    · have hkn : (k : Int) < (n : Int) := by omega
      obtain ⟨v, hv⟩ : ∃ v, X[k]? = some v := ⟨_, Array.getElem?_eq_getElem (by rw [HXs.out]; exact hlt)⟩
      have hc0 : wr.cell? ⟨w.heap.size, k, none⟩ = some v := by rw [cell_of_row _ _ _ _ _ _ hX]; exact hv
      have hf0 : wr.frozen? ⟨w.heap.size, k, none⟩ = false := by simp [World.frozen?, hX]
      have HX := Lib.hid hX; clear hX
      have Hv := Lib.hid hv; clear hv
      go_wp2_with fail
      have hrel6 : ∃ X : Array Value, X.size = n ∧ (wr.setCell ⟨w.heap.size, k, none⟩ (.int .u8 (c.toNat : Int))).heap[w.heap.size]? = some (.cells X 5 (0, 0)) ∧ (∀ j, j < k + 1 → X[j]? = some (.int .u8 (c.toNat : Int))) ∧ Below w.heap.size w (wr.setCell ⟨w.heap.size, k, none⟩ (.int .u8 (c.toNat : Int))) :=
        ⟨_, by rw [Array.size_setIfInBounds]; exact HXs.out, blk_set HX.out k _, fun j hj => by
          by_cases h : j = k
          · subst h; rw [Array.getElem?_setIfInBounds_self]; simp [HXs.out, hlt]
          · rw [Array.getElem?_setIfInBounds_ne (by omega)]; exact HXj.out j (by omega), Bset hbel (Nat.le_refl _) _⟩
      go_roundw
      case rel => exact ⟨k + 1, by omega, by go_num, hrel6⟩
      case measure => simp [intOf]; omega
    · have hkn : ¬ (k : Int) < (n : Int) := by omega
      have he : X = (bytesV (List.replicate n c)).toArray := by
        apply Array.ext_getElem?
        intro j
        by_cases hj : j < n
        · rw [HXj.out j (by omega)]
          simp [bytesV, hj]
        · rw [Array.getElem?_eq_none (by rw [HXs.out]; omega), Array.getElem?_eq_none (by simp [bytesV]; omega)]
      subst he
      have HX := Lib.hid hX; clear hX
      go_wp2_with fail
      go_ret
      exact ⟨rfl, HX.out, hbel⟩

end Go.Proofs.Ytdjndeleafhglaa
