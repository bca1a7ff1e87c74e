/-
  The walks of the three statements on geometries: each returns true, and writes nothing that was there.
-/
import Derived.Test.YtdjndeleafhglaaGeoZ
namespace Go.Proofs.Ytdjndeleafhglaa
open Go.RowKit

set_option maxHeartbeats 1000000 in
theorem alive21_any (w : World) :
    Calls Try.prog 36 #[] w fun e w' => e = .returned (.bool true) ∧ Below w.heap.size w w' := by
  have g1 : gRight 2 1 3 = true := by decide
  have g2 : gNodes 2 1 3 = 1 := by decide
  have g3 : gLeaves 2 1 3 = 2 := by decide
  have g4 : gSize 2 1 3 = 13 := by decide
  go_enter Try.func36, Try.ntmps36
  go_wp2_with fail
  refine (Right_any _ _ _ _).mono ?_; rintro e w1 ⟨rfl, hb1⟩; obtain ⟨hc1, hf1⟩ := bcell hb1
  go_wp2_with fail
  refine (Nodes_any _ _ _ _).mono ?_; rintro e w2 ⟨rfl, hb2⟩; obtain ⟨hc2, hf2⟩ := bcell hb2
  have z1 : w.heap.size < w1.heap.size := by have := hb1.size; simp at this; omega
  have z2 : w.heap.size < w2.heap.size := by have := hb2.size; omega
  go_wp2_with fail
  refine (Leaves_any _ _ _ _).mono ?_; rintro e w3 ⟨rfl, hb3⟩; obtain ⟨hc3, hf3⟩ := bcell hb3
  have z3 : w.heap.size < w3.heap.size := by have := hb3.size; omega
  go_wp2_with fail
  refine (Size_any _ _ _ _).mono ?_; rintro e w4 ⟨rfl, hb4⟩
  go_wp2
  go_ret
  exact ⟨rfl, by ((repeat (first | (with_reducible exact Bnil _) | (with_reducible assumption) | (with_reducible refine Bset ?_ ?_ _) | (with_reducible refine Bnew ?_ _) | (with_reducible refine Bdrew ?_) | (with_reducible refine Bthen ?_ (by assumption)))); all_goals (simp; try omega))⟩

set_option maxRecDepth 100000 in
set_option maxHeartbeats 2000000 in
theorem GeomSizes_walk (a d l : Int) (w : World) :
    Calls Try.prog 3 #[.agg #[.int .i64 a, .int .i64 d, .int .i64 l]] w fun e w' => e = .returned (.bool true) ∧ Below w.heap.size w w' := by
  have hcw := @BW.cell
  go_enter Try.func3, Try.ntmps3
  go_wp2
  refine wp_region_below (by kernel_rfl) (by kernel_rfl) ?_
  repeat (quiet_step ((first
    | (go_at_call 24; exact below_of (Right_any _ _ _ _)) | (go_at_call 25; exact below_of (RRight_any _ _ _ _))
    | (go_at_call 26; exact below_of (Least_any _ _ _ _)) | (go_at_call 27; exact below_of (RLeast_any _ _ _ _))
    | (go_at_call 28; exact below_of (Nodes_any _ _ _ _)) | (go_at_call 29; exact below_of (RNodes_any _ _ _ _))
    | (go_at_call 30; exact below_of (Leaves_any _ _ _ _)) | (go_at_call 31; exact below_of (RLeaves_any _ _ _ _))
    | (go_at_call 32; exact below_of (Pages_any _ _ _ _)) | (go_at_call 33; exact below_of (RPages_any _ _ _ _))
    | (go_at_call 34; exact below_of (Size_any _ _ _ _)) | (go_at_call 35; exact below_of (RSize_any _ _ _ _))
    | (go_at_call 36; exact below_of (alive21_any _)))))
  refine wpQuiet_nil ?_
  rintro _ ⟨x, rfl⟩
  go_wp2
  go_ret
  exact ⟨rfl, x.then (Bbox _ _)⟩

set_option maxRecDepth 100000 in
set_option maxHeartbeats 4000000 in
theorem GeomPlaces_walk (a d l n i p : Int) (w : World) (h0 : 0 ≤ n) (h1 : n < 18446744073709551616) (hp : -9223372036854775808 ≤ p) :
    Calls Try.prog 5 #[.agg #[.int .i64 a, .int .i64 d, .int .i64 l], .int .u64 n, .int .i64 i, .int .i64 p] w fun e w' => e = .returned (.bool true) ∧ Below w.heap.size w w' := by
  have hcw := @BW.cell
  have e2 : IntKind.i64.wrap (n.tmod 2) = n % 2 := by rw [Int.tmod_eq_emod_of_nonneg h0]; exact IntWalk.i64_in _ (by omega)
  have e3 : IntKind.i64.wrap (2 + n % 2) = 2 + n % 2 := IntWalk.i64_in _ (by omega)
  have hw1 := Where_any a d l p
  have hw2 := RWhere_any a d l p
  unfold sayWhere at hw1 hw2
  generalize gWord (gWhere a d l p).1 = s at hw1 hw2
  generalize (gWhere a d l p).2 = m at hw1 hw2
  have Hw1 := Lib.hid hw1; clear hw1
  have Hw2 := Lib.hid hw2; clear hw2
  go_enter Try.func5, Try.ntmps5
  go_wp2_with fail
  refine (Hw1.out _ hp).mono ?_; rintro e w1 ⟨rfl, hb1⟩; obtain ⟨hc1, hf1⟩ := bcell hb1
  go_wp2_with fail
  refine (Hw2.out _ hp).mono ?_; rintro e w2 ⟨rfl, hb2⟩; obtain ⟨hc2, hf2⟩ := bcell hb2
  have z1 : w.heap.size < w1.heap.size := by have := hb1.size; simp at this; omega
  have z2 : w.heap.size < w2.heap.size := by have := hb2.size; omega
  go_wp2_with fail
  refine wp_region_below (by kernel_rfl) (by kernel_rfl) ?_
  repeat (quiet_step ((first
    | (go_at_call 37; exact below_eq (Root_any _ _ h0 h1)) | (go_at_call 38; exact below_eq (Super_any _ _ h0 h1))
    | (go_at_call 39; exact below_of (Log_any _ _ _ _ _)) | (go_at_call 44; exact below_of (RLog_any _ _ _ _ _))
    | (go_at_call 40; exact below_of (Area_any _ _ _ _ _ _ h0 h1)) | (go_at_call 45; exact below_of (RArea_any _ _ _ _ _ _ h0 h1))
    | (go_at_call 36; exact below_of (alive21_any _)))))
  refine wpQuiet_nil ?_
  rintro _ ⟨x, rfl⟩
  go_wp2
  go_ret
  exact ⟨rfl, x.then (by ((repeat (first | (with_reducible exact Bnil _) | (with_reducible assumption) | (with_reducible refine Bset ?_ ?_ _) | (with_reducible refine Bnew ?_ _) | (with_reducible refine Bdrew ?_) | (with_reducible refine Bthen ?_ (by assumption)))); all_goals (simp; try omega)))⟩

end Go.Proofs.Ytdjndeleafhglaa
