/-
  disk.Restart: what of the pending is kept whole (the closure), and what is torn.
-/
import Derived.Test.YtdjndeleafhglaaDsk6
namespace Go.Proofs.Ytdjndeleafhglaa
open Go.RowKit

def intsV (l : List Int) : List Value := l.map (Value.int .i64)
theorem intsV_length (l : List Int) : (intsV l).length = l.length := by simp [intsV]

/-- A slice of ints: it reads so. -/
structure IntsAt (w : World) (A : Option Addr) (n : Nat) (l : List Int) : Prop where
  len : l.length = n
  at_ : 0 < n → ∃ g o, A = some ⟨g, o, none⟩ ∧ w.rangeAt g o (intsV l)
theorem IntsAt.keep {w w' : World} {A : Option Addr} {n : Nat} {l : List Int} (h : IntsAt w A n l) (hb : ∀ g o, A = some ⟨g, o, none⟩ → w'.heap[g]? = w.heap[g]?) : IntsAt w' A n l :=
  ⟨h.len, fun hn => by
    obtain ⟨g, o, hA, hr⟩ := h.at_ hn
    exact ⟨g, o, hA, rangeAt_keep hr (hb g o hA)⟩⟩

/-- Is the n-th that is pending kept whole? -/
def wholeB (l : List Int) (i : Nat) : Bool := if h : 0 < l.length then decide (bits .and .i64 (l[i % l.length]'(Nat.mod_lt _ h)) 1 = 1) else false

section
variable {w : World}
set_option maxRecDepth 100000 in
set_option maxHeartbeats 4000000 in
theorem whole_any (i x n c : Nat) (A : Option Addr) (l : List Int) (hx : w.cell? ⟨x, 0, none⟩ = some (.slice A n c)) (hl : IntsAt w A n l) (hsm : n ≤ 1000000) :
    Calls Try.prog 134 #[.int .i64 (i : Int), .pointer (some ⟨x, 0, none⟩)] w fun e w' => e = .returned (.bool (wholeB l i)) ∧ Below w.heap.size w w' := by
  have hcw := @BW.cell
  have hxl : x < w.heap.size := World.block_lt_of_cell? w _ hx
  have hlen := hl.len
  by_cases hn : 0 < n
  · obtain ⟨g, o, rfl, hr⟩ := hl.at_ hn
    have hm : i % n < l.length := by rw [hlen]; exact Nat.mod_lt _ hn
    obtain ⟨v, hv⟩ : ∃ v, l[i % n]? = some v := ⟨_, List.getElem?_eq_getElem hm⟩
    have hc := hr (i % n) (.int .i64 v) (by simp [intsV, hv])
    have hgl : g < w.heap.size := World.block_lt_of_cell? w _ hc
    have hw : wholeB l i = decide (bits .and .i64 v 1 = 1) := by
      unfold wholeB
      rw [dif_pos (by omega)]
      subst hlen
      rw [List.getElem?_eq_getElem hm] at hv
      injection hv with hv
      rw [hv]
    rw [hw]
    have hd : decide (0 < (n : Int)) = true := by simpa using hn
    have hmn : i % n < n := Nat.mod_lt _ hn
    have ht : (i : Int).tmod (n : Int) = ((i % n : Nat) : Int) := by
      rw [Int.tmod_eq_emod_of_nonneg (by omega)]
      omega
    have hn0 : ((n : Int) == 0) = false := by simp; omega
    have hn1 : (n : Int) ≠ 0 := by omega
    have hn2 : ¬ n = 0 := by omega
    generalize i % n = m at hm hv hc ht hmn
    have hmi : (m : Int) < (n : Int) := by omega
    go_enter Try.func134, Try.ntmps134
    go_wp2
    refine wp_region_below (by kernel_rfl) (by kernel_rfl) ?_
    iterate 15 (quiet_step (fail))
    refine wpQuiet_nil ?_
    rintro _ ⟨x, rfl⟩
    go_wp2
    go_ret
    exact ⟨ret_bool rfl, x.then (by ((repeat (first | (with_reducible exact Bnil _) | (with_reducible assumption) | (with_reducible refine Bset ?_ ?_ _) | (with_reducible refine Bnew ?_ _) | (with_reducible refine Bdrew ?_) | (with_reducible refine Bthen ?_ (by assumption)))); all_goals (simp; try omega)))⟩
  · obtain rfl : n = 0 := by omega
    have hw : wholeB l i = false := by unfold wholeB; rw [dif_neg (by omega)]
    rw [hw]
    clear hl hlen hn hw
    go_enter Try.func134, Try.ntmps134
    go_wp2
    refine wp_region_below (by kernel_rfl) (by kernel_rfl) ?_
    iterate 15 (quiet_step (fail))
    refine wpQuiet_nil ?_
    rintro _ ⟨x, rfl⟩
    go_wp2
    go_ret
    exact ⟨ret_bool rfl, x.then (by ((repeat (first | (with_reducible exact Bnil _) | (with_reducible assumption) | (with_reducible refine Bset ?_ ?_ _) | (with_reducible refine Bnew ?_ _) | (with_reducible refine Bdrew ?_) | (with_reducible refine Bthen ?_ (by assumption)))); all_goals (simp; try omega)))⟩

end
end Go.Proofs.Ytdjndeleafhglaa
