/-
  The plain answers of the geometry (layer 21), in numbers, and their bounds. No program stands here.
-/
import Derived.WalkKit
namespace Go.Proofs.Ytdjndeleafhglaa

def gLeast (a d : Int) : Int := if a < 2 ∨ 4 < a ∨ d < 1 ∨ 3 < d then 0 else d + 2
def gRight (a d l : Int) : Bool := decide (2 ≤ a ∧ a ≤ 4 ∧ 1 ≤ d ∧ d ≤ 3 ∧ d + 2 ≤ l ∧ l ≤ 64)
def gNod (a : Int) : Nat → Int
  | 0 => 0
  | k + 1 => gNod a k + a ^ k
def gNodes (a d l : Int) : Int := if gRight a d l = true then gNod a d.toNat else 0
def gLeaves (a d l : Int) : Int := if gRight a d l = true then a ^ d.toNat else 0
def gPages (a d l : Int) : Int := gNodes a d l + gLeaves a d l
def gSize (a d l : Int) : Int := if gRight a d l = true then 4 + l + 2 * gPages a d l else 0
def gLog (a d l i : Int) : Int := if gRight a d l = false ∨ i < 0 then -1 else 4 + i % l
def gArea (a d l : Int) (n i : Int) : Int := if i < 0 ∨ gPages a d l ≤ i then -1 else 4 + l + n % 2 * gPages a d l + i

theorem gRight_iff {a d l : Int} : gRight a d l = true ↔ 2 ≤ a ∧ a ≤ 4 ∧ 1 ≤ d ∧ d ≤ 3 ∧ d + 2 ≤ l ∧ l ≤ 64 := by simp [gRight]
theorem gRight_no {a d l : Int} : gRight a d l = false ↔ ¬ (2 ≤ a ∧ a ≤ 4 ∧ 1 ≤ d ∧ d ≤ 3 ∧ d + 2 ≤ l ∧ l ≤ 64) := by simp [gRight]

theorem gPow_bd {a : Int} (h2 : 2 ≤ a) (h4 : a ≤ 4) : ∀ k : Nat, k ≤ 3 → 1 ≤ a ^ k ∧ a ^ k ≤ 64 := by
  intro k hk
  obtain rfl | rfl | rfl : a = 2 ∨ a = 3 ∨ a = 4 := by omega
  all_goals
    match k, hk with
    | 0, _ => decide
    | 1, _ => decide
    | 2, _ => decide
    | 3, _ => decide

theorem gNod_bd {a : Int} (h2 : 2 ≤ a) (h4 : a ≤ 4) : ∀ k : Nat, k ≤ 3 → 0 ≤ gNod a k ∧ gNod a k ≤ 21 := by
  intro k hk
  obtain rfl | rfl | rfl : a = 2 ∨ a = 3 ∨ a = 4 := by omega
  all_goals
    match k, hk with
    | 0, _ => decide
    | 1, _ => decide
    | 2, _ => decide
    | 3, _ => decide

theorem gNod_pos {a : Int} (h2 : 2 ≤ a) (h4 : a ≤ 4) : ∀ k : Nat, 1 ≤ k → k ≤ 3 → 1 ≤ gNod a k := by
  intro k h1 hk
  obtain rfl | rfl | rfl : a = 2 ∨ a = 3 ∨ a = 4 := by omega
  all_goals
    match k, hk with
    | 0, _ => omega
    | 1, _ => decide
    | 2, _ => decide
    | 3, _ => decide

theorem gNodes_bd (a d l : Int) : 0 ≤ gNodes a d l ∧ gNodes a d l ≤ 21 := by
  unfold gNodes
  split
  · rename_i h
    obtain ⟨h2, h4, h1, h3, _⟩ := gRight_iff.1 h
    exact gNod_bd h2 h4 _ (by omega)
  · omega
theorem gLeaves_bd (a d l : Int) : 0 ≤ gLeaves a d l ∧ gLeaves a d l ≤ 64 := by
  unfold gLeaves
  split
  · rename_i h
    obtain ⟨h2, h4, h1, h3, _⟩ := gRight_iff.1 h
    have := gPow_bd h2 h4 d.toNat (by omega)
    omega
  · omega
theorem gPages_bd (a d l : Int) : 0 ≤ gPages a d l ∧ gPages a d l ≤ 85 := by
  have h1 := gNodes_bd a d l
  have h2 := gLeaves_bd a d l
  unfold gPages; omega
theorem gPages_no {a d l : Int} (h : gRight a d l = false) : gPages a d l = 0 := by simp [gPages, gNodes, gLeaves, h]
theorem gPages_pos {a d l : Int} (h : gRight a d l = true) : 2 ≤ gPages a d l := by
  obtain ⟨h2, h4, h1, h3, _⟩ := gRight_iff.1 h
  have e1 := gNod_pos h2 h4 d.toNat (by omega) (by omega)
  have e2 := gPow_bd h2 h4 d.toNat (by omega)
  simp only [gPages, gNodes, gLeaves, h, if_true]; omega
theorem gSize_bd (a d l : Int) : 0 ≤ gSize a d l ∧ gSize a d l ≤ 238 := by
  have h1 := gPages_bd a d l
  unfold gSize
  split
  · rename_i h
    obtain ⟨h2, h4, h1, h3, _⟩ := gRight_iff.1 h
    omega
  · omega
theorem gSize_yes {a d l : Int} (h : gRight a d l = true) : gSize a d l = 4 + l + 2 * gPages a d l := by simp [gSize, h]
theorem gSize_no {a d l : Int} (h : gRight a d l = false) : gSize a d l = 0 := by simp [gSize, h]
theorem gLeast_right (a d l : Int) : (0 < gLeast a d ∧ gLeast a d ≤ l ∧ l ≤ 64) ↔ gRight a d l = true := by
  rw [gRight_iff]; unfold gLeast; split <;> omega
theorem gLeast_bd (a d : Int) : 0 ≤ gLeast a d ∧ gLeast a d ≤ 5 := by unfold gLeast; split <;> omega

/-- What stands at a place: 0 the root, 1 the super, 2 the log, 3 the area, 4 nothing; and which one. -/
def gWhere (a d l p : Int) : Int × Int :=
  if p < 0 ∨ gSize a d l ≤ p then (4, 0) else if p < 2 then (0, p) else if p < 4 then (1, p - 2) else if p < 4 + l then (2, p - 4) else (3, p - 4 - l)

end Go.Proofs.Ytdjndeleafhglaa
