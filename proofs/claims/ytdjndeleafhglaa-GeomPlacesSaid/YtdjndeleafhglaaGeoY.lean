/-
  The walks of the package geom, the last part, and of its reference.
-/
import Derived.Test.YtdjndeleafhglaaGeoX
namespace Go.Proofs.Ytdjndeleafhglaa
open Go.RowKit

set_option maxHeartbeats 400000 in
theorem Log_any (a d l i : Int) (w : World) :
    Calls Try.prog 39 #[.agg #[.int .i64 a, .int .i64 d, .int .i64 l], .int .i64 i] w fun e w' => e = .returned (.int .i64 (gLog a d l i)) ∧ Below w.heap.size w w' := by
  cases hr : gRight a d l with
  | false =>
    go_enter Try.func39, Try.ntmps39
    go_wp2_with (go_at_call 24; refine (Right_any _ _ _ _).mono ?_; rintro e w1 ⟨rfl, hb⟩; obtain ⟨hc, hf⟩ := bcell hb)
    go_ret
    exact ⟨ret_int (by simp [gLog, hr]), Bthen (Bbox _ _) hb⟩
  | true =>
    obtain ⟨h2, h4, h1, h3, h5, h6⟩ := gRight_iff.1 hr
    by_cases h0 : i < 0
    · go_enter Try.func39, Try.ntmps39
      go_wp2_with (go_at_call 24; refine (Right_any _ _ _ _).mono ?_; rintro e w1 ⟨rfl, hb⟩; obtain ⟨hc, hf⟩ := bcell hb)
      go_ret
      exact ⟨ret_int (by unfold gLog; rw [if_pos (Or.inr h0)]), Bthen (Bbox _ _) hb⟩
    · have hm0 := Int.emod_nonneg i (show l ≠ 0 by omega)
      have hm1 := Int.emod_lt_of_pos i (show 0 < l by omega)
      go_enter Try.func39, Try.ntmps39
      go_wp2_with (go_at_call 24; refine (Right_any _ _ _ _).mono ?_; rintro e w1 ⟨rfl, hb⟩; obtain ⟨hc, hf⟩ := bcell hb)
      go_ret
      exact ⟨ret_int (by unfold gLog; rw [if_neg (by simp [hr]; omega)]), Bthen (Bbox _ _) hb⟩

set_option maxHeartbeats 400000 in
theorem Area_any (a d l n i : Int) (w : World) (h0 : 0 ≤ n) (h1 : n < 18446744073709551616) :
    Calls Try.prog 40 #[.agg #[.int .i64 a, .int .i64 d, .int .i64 l], .int .u64 n, .int .i64 i] w fun e w' => e = .returned (.int .i64 (gArea a d l n i)) ∧ Below w.heap.size w w' := by
  have b1 := gPages_bd a d l
  by_cases hi : i < 0 ∨ gPages a d l ≤ i
  · by_cases hi0 : i < 0
    all_goals
      go_enter Try.func40, Try.ntmps40
      go_wp2_with (go_at_call 32; refine (Pages_any _ _ _ _).mono ?_; rintro e w1 ⟨rfl, hb⟩; obtain ⟨hc, hf⟩ := bcell hb)
      go_ret
      exact ⟨ret_int (by unfold gArea; rw [if_pos hi]), Bthen (Bbox _ _) hb⟩
  · have hr : gRight a d l = true := by
      cases h : gRight a d l with
      | true => rfl
      | false => have := gPages_no h; omega
    obtain ⟨h2, h4, h7, h3, h5, h6⟩ := gRight_iff.1 hr
    have m1 : n % 2 * gPages a d l ≤ 85 := by
      rcases Int.emod_two_eq n with h | h <;> rw [h] <;> omega
    have m0 : 0 ≤ n % 2 * gPages a d l := by
      rcases Int.emod_two_eq n with h | h <;> rw [h] <;> omega
    have hi1 : ¬ i < 0 := by omega
    have hi2 : ¬ gPages a d l ≤ i := by omega
    go_enter Try.func40, Try.ntmps40
    go_wp2_with (go_at_call 32; refine (Pages_any _ _ _ _).mono ?_; rintro e w1 ⟨rfl, hb⟩; obtain ⟨hc, hf⟩ := bcell hb)
    go_ret
    exact ⟨ret_int (by unfold gArea; rw [if_neg (by omega)]), Bthen (Bbox _ _) hb⟩

set_option maxHeartbeats 400000 in
theorem RNodes_any (a d l : Int) (w : World) :
    Calls Try.prog 29 #[.agg #[.int .i64 a, .int .i64 d, .int .i64 l]] w fun e w' => e = .returned (.int .i64 (gNodes a d l)) ∧ Below w.heap.size w w' := by
  cases hr : gRight a d l with
  | false =>
    go_enter Try.func29, Try.ntmps29
    go_wp2_with (go_at_call 25; refine (RRight_any _ _ _ _).mono ?_; rintro e w1 ⟨rfl, hb⟩; obtain ⟨hc, hf⟩ := bcell hb)
    go_ret
    exact ⟨ret_int (by simp [gNodes, hr]), Bthen (Bbox _ _) hb⟩
  | true =>
    obtain ⟨h2, h4, h1, h3, _⟩ := gRight_iff.1 hr
    go_enter Try.func29, Try.ntmps29
    go_wp2_with (go_at_call 25; refine (RRight_any _ _ _ _).mono ?_; rintro e w1 ⟨rfl, hb⟩; obtain ⟨hc, hf⟩ := bcell hb)
    go_loop [3, 4, 5] (fun m n i => ∃ k : Nat, (k : Int) ≤ d ∧ i = .int .i64 k ∧ n = .int .i64 (gNod a k) ∧ m = .int .i64 (a ^ k)) (fun _ _ i => (d - intOf i).toNat)
    case atStart => exact ⟨0, by omega, rfl, rfl, by rw [Int.pow_zero]⟩
    case round =>
      obtain ⟨k, hk, rfl, rfl, rfl⟩ := hrel
      have b1 := gNod_bd h2 h4 k (by omega)
      have b2 := gPow_bd h2 h4 k (by omega)
      by_cases hlt : (k : Int) < d
      · have b3 := gPow_bd h2 h4 (k + 1) (by omega)
        rw [Int.pow_succ] at b3
        obtain ⟨b4, b5⟩ := b3
        go_wp2
        go_round
        case rel => exact ⟨k + 1, by omega, by go_num, rfl, by rw [Int.pow_succ]⟩
        case measure => simp [intOf]; omega
      · have hkd : d.toNat = k := by omega
        go_wp2
        go_ret
        exact ⟨ret_int (by simp [gNodes, hr, hkd]), Bthen (Bbox _ _) hb⟩

set_option maxHeartbeats 400000 in
theorem RLeaves_any (a d l : Int) (w : World) :
    Calls Try.prog 31 #[.agg #[.int .i64 a, .int .i64 d, .int .i64 l]] w fun e w' => e = .returned (.int .i64 (gLeaves a d l)) ∧ Below w.heap.size w w' := by
  cases hr : gRight a d l with
  | false =>
    go_enter Try.func31, Try.ntmps31
    go_wp2_with (go_at_call 25; refine (RRight_any _ _ _ _).mono ?_; rintro e w1 ⟨rfl, hb⟩; obtain ⟨hc, hf⟩ := bcell hb)
    go_ret
    exact ⟨ret_int (by simp [gLeaves, hr]), Bthen (Bbox _ _) hb⟩
  | true =>
    obtain ⟨h2, h4, h1, h3, _⟩ := gRight_iff.1 hr
    go_enter Try.func31, Try.ntmps31
    go_wp2_with (go_at_call 25; refine (RRight_any _ _ _ _).mono ?_; rintro e w1 ⟨rfl, hb⟩; obtain ⟨hc, hf⟩ := bcell hb)
    go_loop [3, 4] (fun m i => ∃ k : Nat, (k : Int) ≤ d ∧ i = .int .i64 k ∧ m = .int .i64 (a ^ k)) (fun _ i => (d - intOf i).toNat)
    case atStart => exact ⟨0, by omega, rfl, by rw [Int.pow_zero]⟩
    case round =>
      obtain ⟨k, hk, rfl, rfl⟩ := hrel
      have b2 := gPow_bd h2 h4 k (by omega)
      by_cases hlt : (k : Int) < d
      · have b3 := gPow_bd h2 h4 (k + 1) (by omega)
        rw [Int.pow_succ] at b3
        obtain ⟨b4, b5⟩ := b3
        go_wp2
        go_round
        case rel => exact ⟨k + 1, by omega, by go_num, by rw [Int.pow_succ]⟩
        case measure => simp [intOf]; omega
      · have hkd : d.toNat = k := by omega
        go_wp2
        go_ret
        exact ⟨ret_int (by simp [gLeaves, hr, hkd]), Bthen (Bbox _ _) hb⟩

set_option maxHeartbeats 400000 in
theorem RPages_any (a d l : Int) (w : World) :
    Calls Try.prog 33 #[.agg #[.int .i64 a, .int .i64 d, .int .i64 l]] w fun e w' => e = .returned (.int .i64 (gPages a d l)) ∧ Below w.heap.size w w' := by
  have b1 := gNodes_bd a d l
  have b2 := gLeaves_bd a d l
  have hw : IntKind.i64.wrap (gNodes a d l + gLeaves a d l) = gPages a d l := IntWalk.i64_in _ (by omega)
  have hcw := @BW.cell
  go_enter Try.func33, Try.ntmps33
  go_wp2
  refine wp_region_below (by kernel_rfl) (by kernel_rfl) ?_
  repeat (quiet_step ((first | (go_at_call 29; exact below_of (RNodes_any _ _ _ _)) | (go_at_call 31; exact below_of (RLeaves_any _ _ _ _)))))
  refine wpQuiet_nil ?_
  rintro _ ⟨x, rfl⟩
  go_wp2
  go_ret
  exact ⟨ret_int rfl, x.then (Bbox _ _)⟩

set_option maxHeartbeats 400000 in
theorem RSize_any (a d l : Int) (w : World) :
    Calls Try.prog 35 #[.agg #[.int .i64 a, .int .i64 d, .int .i64 l]] w fun e w' => e = .returned (.int .i64 (gSize a d l)) ∧ Below w.heap.size w w' := by
  have b1 := gPages_bd a d l
  cases hr : gRight a d l with
  | false =>
    go_enter Try.func35, Try.ntmps35
    go_wp2_with (go_at_call 25; refine (RRight_any _ _ _ _).mono ?_; rintro e w1 ⟨rfl, hb⟩; obtain ⟨hc, hf⟩ := bcell hb)
    go_ret
    exact ⟨ret_int (by simp [gSize, hr]), Bthen (Bbox _ _) hb⟩
  | true =>
    obtain ⟨h2, h4, h1, h3, h5, h6⟩ := gRight_iff.1 hr
    have e1 : IntKind.i64.wrap (4 + l) = 4 + l := IntWalk.i64_in _ (by omega)
    have e2 : IntKind.i64.wrap (2 * gPages a d l) = 2 * gPages a d l := IntWalk.i64_in _ (by omega)
    have e3 : IntKind.i64.wrap (4 + l + 2 * gPages a d l) = 4 + l + 2 * gPages a d l := IntWalk.i64_in _ (by omega)
    have hcw := @BW.cell
    go_enter Try.func35, Try.ntmps35
    go_wp2_with (go_at_call 25; refine (RRight_any _ _ _ _).mono ?_; rintro e w1 ⟨rfl, hb⟩; obtain ⟨hc, hf⟩ := bcell hb)
    have hz : w.heap.size < w1.heap.size := by have := hb.size; simp at this; omega
    refine wp_region_below (by kernel_rfl) (by kernel_rfl) ?_
    repeat (quiet_step ((go_at_call 33; exact below_of (RPages_any _ _ _ _))))
    refine wpQuiet_nil ?_
    rintro _ ⟨x, rfl⟩
    clear e1 e2 e3
    go_wp2
    go_ret
    exact ⟨ret_int (by simp [gSize, hr]), x.then (Bthen (Bbox _ _) hb)⟩

/-- The word that stands for a part of a disk. -/
def gWord (k : Int) : ByteArray := if k = 0 then ⟨#[114, 111, 111, 116]⟩ else if k = 1 then ⟨#[115, 117, 112, 101, 114]⟩ else if k = 2 then ⟨#[108, 111, 103]⟩ else if k = 3 then ⟨#[97, 114, 101, 97]⟩ else ⟨#[]⟩

theorem ret_si {k : IntKind} {s t : ByteArray} {a b : Int} (h : s = t) (h' : a = b) : Ending.returned (.tuple #[.string s, .int k a]) = .returned (.tuple #[.string t, .int k b]) := by rw [h, h']
theorem gWhere_no {a d l p : Int} (h : p < 0 ∨ gSize a d l ≤ p) : gWhere a d l p = (4, 0) := by unfold gWhere; rw [if_pos h]
theorem gWhere_root {a d l p : Int} (h : ¬ (p < 0 ∨ gSize a d l ≤ p)) (h2 : p < 2) : gWhere a d l p = (0, p) := by unfold gWhere; rw [if_neg h, if_pos h2]
theorem gWhere_super {a d l p : Int} (h : ¬ (p < 0 ∨ gSize a d l ≤ p)) (h2 : ¬ p < 2) (h4 : p < 4) : gWhere a d l p = (1, p - 2) := by unfold gWhere; rw [if_neg h, if_neg h2, if_pos h4]
theorem gWhere_log {a d l p : Int} (h : ¬ (p < 0 ∨ gSize a d l ≤ p)) (h2 : ¬ p < 2) (h4 : ¬ p < 4) (hl : p < 4 + l) : gWhere a d l p = (2, p - 4) := by unfold gWhere; rw [if_neg h, if_neg h2, if_neg h4, if_pos hl]
theorem gWhere_area {a d l p : Int} (h : ¬ (p < 0 ∨ gSize a d l ≤ p)) (h2 : ¬ p < 2) (h4 : ¬ p < 4) (hl : ¬ p < 4 + l) : gWhere a d l p = (3, p - 4 - l) := by unfold gWhere; rw [if_neg h, if_neg h2, if_neg h4, if_neg hl]

set_option maxHeartbeats 400000 in
theorem RLog_any (a d l i : Int) (w : World) :
    Calls Try.prog 44 #[.agg #[.int .i64 a, .int .i64 d, .int .i64 l], .int .i64 i] w fun e w' => e = .returned (.int .i64 (gLog a d l i)) ∧ Below w.heap.size w w' := by
  cases hr : gRight a d l with
  | false =>
    go_enter Try.func44, Try.ntmps44
    go_wp2_with (go_at_call 25; refine (RRight_any _ _ _ _).mono ?_; rintro e w1 ⟨rfl, hb⟩; obtain ⟨hc, hf⟩ := bcell hb)
    go_ret
    exact ⟨ret_int (by simp [gLog, hr]), Bthen (Bbox _ _) hb⟩
  | true =>
    obtain ⟨h2, h4, h1, h3, h5, h6⟩ := gRight_iff.1 hr
    by_cases h0 : i < 0
    · go_enter Try.func44, Try.ntmps44
      go_wp2_with (go_at_call 25; refine (RRight_any _ _ _ _).mono ?_; rintro e w1 ⟨rfl, hb⟩; obtain ⟨hc, hf⟩ := bcell hb)
      go_ret
      exact ⟨ret_int (by unfold gLog; rw [if_pos (Or.inr h0)]), Bthen (Bbox _ _) hb⟩
    · have hm0 := Int.emod_nonneg i (show l ≠ 0 by omega)
      have hm1 := Int.emod_lt_of_pos i (show 0 < l by omega)
      go_enter Try.func44, Try.ntmps44
      go_wp2_with (go_at_call 25; refine (RRight_any _ _ _ _).mono ?_; rintro e w1 ⟨rfl, hb⟩; obtain ⟨hc, hf⟩ := bcell hb)
      go_ret
      exact ⟨ret_int (by unfold gLog; rw [if_neg (by simp [hr]; omega)]), Bthen (Bbox _ _) hb⟩

/-- The reference says -1 where the geometry may not be; so does the number, for then there are no pages. -/
theorem gArea_no {a d l n i : Int} (hr : gRight a d l = false) : gArea a d l n i = -1 := by
  unfold gArea; rw [gPages_no hr, if_pos (by omega)]

set_option maxHeartbeats 1000000 in
theorem RArea_any (a d l n i : Int) (w : World) (h0 : 0 ≤ n) (_h1 : n < 18446744073709551616) :
    Calls Try.prog 45 #[.agg #[.int .i64 a, .int .i64 d, .int .i64 l], .int .u64 n, .int .i64 i] w fun e w' => e = .returned (.int .i64 (gArea a d l n i)) ∧ Below w.heap.size w w' := by
  have b1 := gPages_bd a d l
  cases hr : gRight a d l with
  | false =>
    go_enter Try.func45, Try.ntmps45
    go_wp2_with (go_at_call 25; refine (RRight_any _ _ _ _).mono ?_; rintro e w1 ⟨rfl, hb⟩; obtain ⟨hc, hf⟩ := bcell hb)
    go_ret
    exact ⟨ret_int (by rw [gArea_no hr]), Bthen (Bbox _ _) hb⟩
  | true =>
    by_cases hi : i < 0 ∨ gPages a d l ≤ i
    · have hz : ∀ w1, Below (w.heap.size + 1) (w.alloc (.cells #[.int .i64 a, .int .i64 d, .int .i64 l] 23)) w1 → w.heap.size < w1.heap.size := fun w1 hb => by have := hb.size; simp at this; omega
      by_cases hi0 : i < 0
      · go_enter Try.func45, Try.ntmps45
        go_wp2_with (go_at_call 25; refine (RRight_any _ _ _ _).mono ?_; rintro e w1 ⟨rfl, hb⟩; obtain ⟨hc, hf⟩ := bcell hb)
        go_ret
        exact ⟨ret_int (by unfold gArea; rw [if_pos hi]), Bthen (Bbox _ _) hb⟩
      · go_enter Try.func45, Try.ntmps45
        go_wp2_with (go_at_call 25; refine (RRight_any _ _ _ _).mono ?_; rintro e w1 ⟨rfl, hb⟩; obtain ⟨hc, hf⟩ := bcell hb)
        refine (RPages_any _ _ _ _).mono ?_
        rintro e w2 ⟨rfl, hb2⟩
        go_wp2
        go_ret
        exact ⟨ret_int (by unfold gArea; rw [if_pos hi]), Bthen (Bthen (Bbox _ _) hb) hb2⟩
    · obtain ⟨h2, h4, h7, h3, h5, h6⟩ := gRight_iff.1 hr
      have m1 : n % 2 * gPages a d l ≤ 85 := by
        rcases Int.emod_two_eq n with h | h <;> rw [h] <;> omega
      have m0 : 0 ≤ n % 2 * gPages a d l := by
        rcases Int.emod_two_eq n with h | h <;> rw [h] <;> omega
      have hi1 : ¬ i < 0 := by omega
      have hi2 : ¬ gPages a d l ≤ i := by omega
      have e1 : IntKind.i64.wrap (4 + l) = 4 + l := IntWalk.i64_in _ (by omega)
      have e2 : IntKind.i64.wrap (n.tmod 2) = n % 2 := by rw [Int.tmod_eq_emod_of_nonneg h0]; exact IntWalk.i64_in _ (by omega)
      have e3 : IntKind.i64.wrap (n % 2 * gPages a d l) = n % 2 * gPages a d l := IntWalk.i64_in _ (by omega)
      have e4 : IntKind.i64.wrap (4 + l + n % 2 * gPages a d l) = 4 + l + n % 2 * gPages a d l := IntWalk.i64_in _ (by omega)
      have e5 : IntKind.i64.wrap (4 + l + n % 2 * gPages a d l + i) = 4 + l + n % 2 * gPages a d l + i := IntWalk.i64_in _ (by omega)
      have hcw := @BW.cell
      go_enter Try.func45, Try.ntmps45
      go_wp2_with (go_at_call 25; refine (RRight_any _ _ _ _).mono ?_; rintro e w1 ⟨rfl, hb⟩; obtain ⟨hc, hf⟩ := bcell hb)
      refine (RPages_any _ _ _ _).mono ?_
      rintro e w2 ⟨rfl, hb2⟩
      have hz : w.heap.size < w1.heap.size := by have := hb.size; simp at this; omega
      have hz2 : w.heap.size < w2.heap.size := by have := hb2.size; omega
      obtain ⟨hc2, hf2⟩ := bcell hb2
      go_wp2
      refine wp_region_below (by kernel_rfl) (by kernel_rfl) ?_
      repeat (quiet_step ((go_at_call 33; exact below_of (RPages_any _ _ _ _))))
      refine wpQuiet_nil ?_
      rintro _ ⟨x, rfl⟩
      clear e1 e2 e3 e4 e5
      go_wp2
      go_ret
      exact ⟨ret_int (by unfold gArea; rw [if_neg hi]), x.then (Bthen (Bthen (Bbox _ _) hb) hb2)⟩

end Go.Proofs.Ytdjndeleafhglaa
