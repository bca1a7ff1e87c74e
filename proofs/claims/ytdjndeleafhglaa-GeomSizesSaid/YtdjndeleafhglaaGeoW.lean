/-
  The walks of the package geom and of its reference: what each function answers, and that it writes nothing that was there.
-/
import Derived.Test.YtdjndeleafhglaaRows
import Derived.Test.YtdjndeleafhglaaGeoA
import Derived.Test.YtdjndeleafhglaaBase
import Derived.Test.YtdjndeleafhglaaPerm
namespace Go.Proofs.Ytdjndeleafhglaa
open Go.RowKit

set_option maxHeartbeats 400000 in
theorem Least_any (a d l : Int) (w : World) :
    Calls Try.prog 26 #[.agg #[.int .i64 a, .int .i64 d, .int .i64 l]] w fun e w' => e = .returned (.int .i64 (gLeast a d)) ∧ Below w.heap.size w w' := by
  go_enter Try.func26, Try.ntmps26
  go_wp2
  all_goals
    go_ret
    exact ⟨ret_int (by unfold gLeast; first | rw [if_pos (by omega)] | (rw [if_neg (by omega)])), Bbox _ _⟩

set_option maxHeartbeats 400000 in
theorem RLeast_any (a d l : Int) (w : World) :
    Calls Try.prog 27 #[.agg #[.int .i64 a, .int .i64 d, .int .i64 l]] w fun e w' => e = .returned (.int .i64 (gLeast a d)) ∧ Below w.heap.size w w' := by
  go_enter Try.func27, Try.ntmps27
  go_wp2
  all_goals
    go_ret
    exact ⟨ret_int (by unfold gLeast; first | rw [if_pos (by omega)] | (rw [if_neg (by omega)])), Bbox _ _⟩

set_option maxHeartbeats 400000 in
theorem Right_any (a d l : Int) (w : World) :
    Calls Try.prog 24 #[.agg #[.int .i64 a, .int .i64 d, .int .i64 l]] w fun e w' => e = .returned (.bool (gRight a d l)) ∧ Below w.heap.size w w' := by
  have key : ∀ b : Bool, (b = true ↔ (0 < gLeast a d ∧ gLeast a d ≤ l ∧ l ≤ 64)) → b = gRight a d l := fun b h => by rw [Bool.eq_iff_iff, h]; exact gLeast_right a d l
  have Hkey := Lib.hid key; clear key
  go_enter Try.func24, Try.ntmps24
  go_wp2_with (go_at_call 26; refine (Least_any _ _ _ _).mono ?_; rintro e w1 ⟨rfl, hb⟩; obtain ⟨hc, hf⟩ := bcell hb)
  all_goals
    go_ret
    exact ⟨ret_bool (Hkey.out _ (by simp; omega)), Bthen (Bbox _ _) hb⟩

set_option maxHeartbeats 400000 in
theorem RRight_any (a d l : Int) (w : World) :
    Calls Try.prog 25 #[.agg #[.int .i64 a, .int .i64 d, .int .i64 l]] w fun e w' => e = .returned (.bool (gRight a d l)) ∧ Below w.heap.size w w' := by
  have key : ∀ b : Bool, (b = true ↔ (0 < gLeast a d ∧ gLeast a d ≤ l ∧ l ≤ 64)) → b = gRight a d l := fun b h => by rw [Bool.eq_iff_iff, h]; exact gLeast_right a d l
  have Hkey := Lib.hid key; clear key
  have hcw := @BW.cell
  by_cases h1 : 0 < gLeast a d
  · by_cases h2 : gLeast a d ≤ l
    · go_enter Try.func25, Try.ntmps25
      go_wp2
      refine wp_region_below (by kernel_rfl) (by kernel_rfl) ?_
      repeat (quiet_step ((go_at_call 27; exact below_of (RLeast_any _ _ _ _))))
      refine wpQuiet_nil ?_
      rintro _ ⟨x, rfl⟩
      go_wp2
      go_ret
      exact ⟨ret_bool (Hkey.out _ (by simp; try omega)), x.then (Bbox _ _)⟩
    · have d2 : decide (gLeast a d ≤ l) = false := by simpa using h2
      go_enter Try.func25, Try.ntmps25
      go_wp2
      refine wp_region_below (by kernel_rfl) (by kernel_rfl) ?_
      repeat (quiet_step ((go_at_call 27; exact below_of (RLeast_any _ _ _ _))))
      refine wpQuiet_nil ?_
      rintro _ ⟨x, rfl⟩
      go_wp2
      go_ret
      exact ⟨ret_bool (Hkey.out _ (by simp; try omega)), x.then (Bbox _ _)⟩
  · have d1 : decide (0 < gLeast a d) = false := by simpa using h1
    go_enter Try.func25, Try.ntmps25
    go_wp2
    refine wp_region_below (by kernel_rfl) (by kernel_rfl) ?_
    repeat (quiet_step ((go_at_call 27; exact below_of (RLeast_any _ _ _ _))))
    refine wpQuiet_nil ?_
    rintro _ ⟨x, rfl⟩
    go_wp2
    go_ret
    exact ⟨ret_bool (Hkey.out _ (by simp; try omega)), x.then (Bbox _ _)⟩

set_option maxHeartbeats 400000 in
theorem levels_no (a d l : Int) (w : World) (hr : gRight a d l = false) :
    Calls Try.prog 129 #[.agg #[.int .i64 a, .int .i64 d, .int .i64 l]] w fun e w' => e = .returned (.tuple #[.int .i64 0, .int .i64 0]) ∧ Below w.heap.size w w' := by
  go_enter Try.func129, Try.ntmps129
  go_wp2_with (go_at_call 24; refine (Right_any _ _ _ _).mono ?_; rintro e w1 ⟨rfl, hb⟩; obtain ⟨hc, hf⟩ := bcell hb)
  go_ret2
  exact ⟨rfl, Bthen (Bbox _ _) hb⟩

set_option maxHeartbeats 400000 in
theorem levels_yes (a d l : Int) (w : World) (hr : gRight a d l = true) :
    Calls Try.prog 129 #[.agg #[.int .i64 a, .int .i64 d, .int .i64 l]] w fun e w' => e = .returned (.tuple #[.int .i64 (gNod a d.toNat), .int .i64 (a ^ d.toNat)]) ∧ Below w.heap.size w w' := by
  obtain ⟨h2, h4, h1, h3, _⟩ := gRight_iff.1 hr
  go_enter Try.func129, Try.ntmps129
  go_wp2_with (go_at_call 24; refine (Right_any _ _ _ _).mono ?_; rintro e w1 ⟨rfl, hb⟩; obtain ⟨hc, hf⟩ := bcell hb)
  go_loop [2, 3, 9] (fun n m i => ∃ k : Nat, (k : Int) ≤ d ∧ i = .int .i64 k ∧ n = .int .i64 (gNod a k) ∧ m = .int .i64 (a ^ k)) (fun _ _ i => (d - intOf i).toNat)
  case atStart => exact ⟨0, by omega, rfl, rfl, by rw [Int.pow_zero]⟩
  case round =>
    obtain ⟨k, hk, rfl, rfl, rfl⟩ := hrel
    have b1 := gNod_bd h2 h4 k (by omega)
    have b2 := gPow_bd h2 h4 k (by omega)
    by_cases hlt : (k : Int) < d
    · have b3 := gPow_bd h2 h4 (k + 1) (by omega)
      rw [Int.pow_succ] at b3
      obtain ⟨b4, b5⟩ := b3
      go_wp2
      go_round
      case rel => exact ⟨k + 1, by omega, by go_num, rfl, by rw [Int.pow_succ]⟩
      case measure => simp [intOf]; omega
    · have hkd : d.toNat = k := by omega
      go_wp2
      go_ret2
      exact ⟨ret_ii rfl rfl, Bthen (Bbox _ _) hb⟩

/-- Both answers of 'levels' at once. -/
theorem levels_any (a d l : Int) (w : World) :
    Calls Try.prog 129 #[.agg #[.int .i64 a, .int .i64 d, .int .i64 l]] w fun e w' => e = .returned (.tuple #[.int .i64 (gNodes a d l), .int .i64 (gLeaves a d l)]) ∧ Below w.heap.size w w' := by
  cases hr : gRight a d l with
  | true => exact (levels_yes a d l w hr).mono fun e w' ⟨h, hb⟩ => ⟨by rw [h]; simp [gNodes, gLeaves, hr], hb⟩
  | false => exact (levels_no a d l w hr).mono fun e w' ⟨h, hb⟩ => ⟨by rw [h]; simp [gNodes, gLeaves, hr], hb⟩

set_option maxHeartbeats 400000 in
theorem Nodes_any (a d l : Int) (w : World) :
    Calls Try.prog 28 #[.agg #[.int .i64 a, .int .i64 d, .int .i64 l]] w fun e w' => e = .returned (.int .i64 (gNodes a d l)) ∧ Below w.heap.size w w' := by
  have b1 := gNodes_bd a d l
  have b2 := gLeaves_bd a d l
  go_enter Try.func28, Try.ntmps28
  go_wp2_with (go_at_call 129; refine (levels_any _ _ _ _).mono ?_; rintro e w1 ⟨rfl, hb⟩)
  go_ret
  exact ⟨ret_int rfl, Bthen (Bbox _ _) hb⟩

set_option maxHeartbeats 400000 in
theorem Leaves_any (a d l : Int) (w : World) :
    Calls Try.prog 30 #[.agg #[.int .i64 a, .int .i64 d, .int .i64 l]] w fun e w' => e = .returned (.int .i64 (gLeaves a d l)) ∧ Below w.heap.size w w' := by
  have b1 := gNodes_bd a d l
  have b2 := gLeaves_bd a d l
  go_enter Try.func30, Try.ntmps30
  go_wp2_with (go_at_call 129; refine (levels_any _ _ _ _).mono ?_; rintro e w1 ⟨rfl, hb⟩)
  go_ret
  exact ⟨ret_int rfl, Bthen (Bbox _ _) hb⟩

set_option maxHeartbeats 400000 in
theorem Pages_any (a d l : Int) (w : World) :
    Calls Try.prog 32 #[.agg #[.int .i64 a, .int .i64 d, .int .i64 l]] w fun e w' => e = .returned (.int .i64 (gPages a d l)) ∧ Below w.heap.size w w' := by
  have b1 := gNodes_bd a d l
  have b2 := gLeaves_bd a d l
  go_enter Try.func32, Try.ntmps32
  go_wp2_with (go_at_call 129; refine (levels_any _ _ _ _).mono ?_; rintro e w1 ⟨rfl, hb⟩)
  go_ret
  exact ⟨ret_int rfl, Bthen (Bbox _ _) hb⟩

set_option maxHeartbeats 400000 in
theorem parts_any (a d l : Int) (w : World) :
    Calls Try.prog 130 #[.agg #[.int .i64 a, .int .i64 d, .int .i64 l]] w fun e w' => e = .returned (.agg #[.string ⟨#[114, 111, 111, 116]⟩, .int .i64 2, .string ⟨#[115, 117, 112, 101, 114]⟩, .int .i64 2, .string ⟨#[108, 111, 103]⟩, .int .i64 l, .string ⟨#[97, 114, 101, 97]⟩, .int .i64 (2 * gPages a d l)]) ∧ Below w.heap.size w w' := by
  have b1 := gPages_bd a d l
  have hw2 : IntKind.i64.wrap (2 * gPages a d l) = 2 * gPages a d l := IntWalk.i64_in _ (by omega)
  go_enter Try.func130, Try.ntmps130
  go_wp2
  refine wp_region_in (BelowW _) [(0, true), (1, true), (2, true), (3, true), (4, true), (5, true), (6, false), (7, true), (8, true), (9, true), (10, false)] (by kernel_rfl) (by kernel_rfl) (fun _ _ _ _ _ h => h) (inB_drew _) (fun hne => ?_)
  have hcx := @inB_cell
  simp only [permOps, List.map_cons, List.map_nil, List.getD_cons_zero, List.getD_cons_succ]
  (repeat ((with_reducible refine wpPerm_F ?_); intro K hK; go_simp; refine hK _ _ ?_; clear hK K))
  (with_reducible refine wpPerm_E rfl ?_); intro K hK
  go_wp2_with (go_at_call 32; refine (Pages_any _ _ _ _).mono ?_; rintro e w1 ⟨rfl, hb⟩)
  refine ⟨inB_step (inB_drew _) hb, ?_⟩
  obtain ⟨hc, hf⟩ := bcell hb
  (repeat ((with_reducible refine wpPerm_F ?_); intro K hK; go_simp; refine hK _ _ ?_; clear hK K))
  (with_reducible refine wpPerm_L rfl ?_); intro K hK
  clear hcx hw2
  go_wp2
  have hz := hb.size
  refine bodyPost_ret (v := .agg #[.string ⟨#[114, 111, 111, 116]⟩, .int .i64 2, .string ⟨#[115, 117, 112, 101, 114]⟩, .int .i64 2, .string ⟨#[108, 111, 103]⟩, .int .i64 l, .string ⟨#[97, 114, 101, 97]⟩, .int .i64 (2 * gPages a d l)]) ?_ rfl ⟨rfl, ?_⟩
  · simp [results, Try.results130, go_sem, hc]
  · ((repeat (first | (with_reducible exact Bnil _) | (with_reducible assumption) | (with_reducible refine Bset ?_ ?_ _) | (with_reducible refine Bnew ?_ _) | (with_reducible refine Bdrew ?_) | (with_reducible refine Bthen ?_ (by assumption)))); all_goals (simp; try omega))

end Go.Proofs.Ytdjndeleafhglaa
