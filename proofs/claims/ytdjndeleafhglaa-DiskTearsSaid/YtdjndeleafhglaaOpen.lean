/-
  What comes in, opened: a slice of numbers.
-/
import Derived.Test.YtdjndeleafhglaaLawT
import Derived.Test.YtdjndeleafhglaaLawBase
import Derived.OpenShut
import Derived.ChangeSlices
import Derived.WideShapes
namespace Go.Proofs.Ytdjndeleafhglaa
open Go.RowKit Go.ChangeShapes Go.WideShapes Go.ChangeAt

theorem opened_ints {H : Type} {enc : TypeId × Value → H} {P : Program} {W : World} {base : Nat} {t e : TypeId} {v : Value} {d : DataW H} {p : List MemPlace} (ht : P.underlying t = some (.slice e)) (he : P.underlying e = some (.int .i64)) (hc : P.cellsOf e = 1)
    (hval : Value.okWide P W .any base t v) (h : DataW.Trod enc P W 0 (fun _ => true) true t v d p) :
    ∃ (A : Option Addr) (n c : Nat) (ks : List Int), v = .slice A n c ∧ IntsAt W A n ks ∧ (0 < n → ∀ g o, A = some ⟨g, o, none⟩ → g < W.heap.size) := by
  obtain ⟨a1, len, cap, rfl⟩ := okWide_slice ht hval
  obtain ⟨fuel, hf⟩ := h
  rcases open_ints ht he hc hf with ⟨hcs, hx⟩ | ⟨a, len', cap', zs, hcs, _, hl, hm, hz, hx, hcell, hwz⟩
  · simp [Value.cells] at hcs
    obtain ⟨rfl, rfl, rfl⟩ := hcs
    exact ⟨none, 0, 0, [], rfl, ⟨rfl, fun h => by omega⟩, fun h => by omega⟩
  · simp [Value.cells] at hcs
    obtain ⟨rfl, rfl, rfl⟩ := hcs
    simp only [if_true] at hz
    have hat : 0 < len → ∃ g o, some a = some (⟨g, o, none⟩ : Addr) ∧ W.rangeAt g o (intsV (zs.take len)) := fun hn => by
      obtain ⟨ab, ao, spot⟩ := a
      have hspot : spot = none := by simpa [Addr.add] using World.cell?_spot (hcell 0 (by omega))
      subst hspot
      refine ⟨ab, ao, rfl, fun j u hu => ?_⟩
      have hj : j < len := by have := (List.getElem?_eq_some_iff.1 hu).1; rw [intsV_length, List.length_take] at this; omega
      have := hcell j (by omega)
      rw [Addr.add_mid] at this
      rw [this]
      simp only [intsV, List.getElem?_map, List.getElem?_take, if_pos hj, List.getElem?_eq_getElem (show j < zs.length by omega), Option.map_some, Option.some.injEq] at hu
      rw [← hu]
      simp [List.getD, List.getElem?_eq_getElem (show j < zs.length by omega)]
    refine ⟨some a, len, cap, zs.take len, rfl, ⟨by rw [List.length_take]; omega, hat⟩, fun hn g o hg => ?_⟩
    obtain ⟨g', o', hg', hr⟩ := hat hn
    rw [hg] at hg'
    injection hg' with hg'
    injection hg' with h1 h2
    subst h1
    exact rangeAt_lt hr (by rw [intsV_length, List.length_take]; omega)

theorem DiskTears_u8 (a b x : Int) (A : Option Addr) (n c : Nat) (ks : List Int) (w : World) (hks : IntsAt w A n ks) (hA : 0 < n → ∀ g o, A = some ⟨g, o, none⟩ → g < w.heap.size) (ha : 0 ≤ a ∧ a ≤ 255) (hb : 0 ≤ b ∧ b ≤ 255) :
    Calls Try.prog 6 #[.int .u8 a, .int .u8 b, .int .i64 x, .slice A n c] w fun e w' => e = .returned (.bool true) ∧ Below w.heap.size w w' := by
  have e1 : ((UInt8.ofNat a.toNat).toNat : Int) = a := by rw [UInt8.toNat_ofNat_of_lt' (show a.toNat < 256 by omega)]; omega
  have e2 : ((UInt8.ofNat b.toNat).toNat : Int) = b := by rw [UInt8.toNat_ofNat_of_lt' (show b.toNat < 256 by omega)]; omega
  have := DiskTears_walk (UInt8.ofNat a.toNat) (UInt8.ofNat b.toNat) x A n c ks w hks hA
  rw [e1, e2] at this
  exact this

end Go.Proofs.Ytdjndeleafhglaa
