/-
  The plain answers of the geometry (layer 21), in numbers, and their bounds. No program stands here.
  The walks of the package geom and of its reference: what each function answers, and that it writes nothing that was there.
  The walks of the package geom, the second half: Size, Root, Super, Log, Area, Where.
  The walks of the package geom, the last part, and of its reference.
-/
import Derived.WalkKit
import Derived.Test.YtdjndeleafhglaaRows
import Derived.Test.YtdjndeleafhglaaM1
namespace Go.Proofs.Ytdjndeleafhglaa

def gLeast (a d : Int) : Int := if a < 2 ∨ 4 < a ∨ d < 1 ∨ 3 < d then 0 else d + 2
def gRight (a d l : Int) : Bool := decide (2 ≤ a ∧ a ≤ 4 ∧ 1 ≤ d ∧ d ≤ 3 ∧ d + 2 ≤ l ∧ l ≤ 64)
def gNod (a : Int) : Nat → Int
  | 0 => 0
  | k + 1 => gNod a k + a ^ k
def gNodes (a d l : Int) : Int := if gRight a d l = true then gNod a d.toNat else 0
def gLeaves (a d l : Int) : Int := if gRight a d l = true then a ^ d.toNat else 0
def gPages (a d l : Int) : Int := gNodes a d l + gLeaves a d l
def gSize (a d l : Int) : Int := if gRight a d l = true then 4 + l + 2 * gPages a d l else 0
def gLog (a d l i : Int) : Int := if gRight a d l = false ∨ i < 0 then -1 else 4 + i % l
def gArea (a d l : Int) (n i : Int) : Int := if i < 0 ∨ gPages a d l ≤ i then -1 else 4 + l + n % 2 * gPages a d l + i

theorem gRight_iff {a d l : Int} : gRight a d l = true ↔ 2 ≤ a ∧ a ≤ 4 ∧ 1 ≤ d ∧ d ≤ 3 ∧ d + 2 ≤ l ∧ l ≤ 64 := by simp [gRight]
theorem gRight_no {a d l : Int} : gRight a d l = false ↔ ¬ (2 ≤ a ∧ a ≤ 4 ∧ 1 ≤ d ∧ d ≤ 3 ∧ d + 2 ≤ l ∧ l ≤ 64) := by simp [gRight]

theorem gPow_bd {a : Int} (h2 : 2 ≤ a) (h4 : a ≤ 4) : ∀ k : Nat, k ≤ 3 → 1 ≤ a ^ k ∧ a ^ k ≤ 64 := by
  intro k hk
  obtain rfl | rfl | rfl : a = 2 ∨ a = 3 ∨ a = 4 := by omega
  all_goals
    match k, hk with
    | 0, _ => decide
    | 1, _ => decide
    | 2, _ => decide
    | 3, _ => decide

theorem gNod_bd {a : Int} (h2 : 2 ≤ a) (h4 : a ≤ 4) : ∀ k : Nat, k ≤ 3 → 0 ≤ gNod a k ∧ gNod a k ≤ 21 := by
  intro k hk
  obtain rfl | rfl | rfl : a = 2 ∨ a = 3 ∨ a = 4 := by omega
  all_goals
    match k, hk with
    | 0, _ => decide
    | 1, _ => decide
    | 2, _ => decide
    | 3, _ => decide

theorem gNod_pos {a : Int} (h2 : 2 ≤ a) (h4 : a ≤ 4) : ∀ k : Nat, 1 ≤ k → k ≤ 3 → 1 ≤ gNod a k := by
  intro k h1 hk
  obtain rfl | rfl | rfl : a = 2 ∨ a = 3 ∨ a = 4 := by omega
  all_goals
    match k, hk with
    | 0, _ => omega
    | 1, _ => decide
    | 2, _ => decide
    | 3, _ => decide

theorem gNodes_bd (a d l : Int) : 0 ≤ gNodes a d l ∧ gNodes a d l ≤ 21 := by
  unfold gNodes
  split
  · rename_i h
    obtain ⟨h2, h4, h1, h3, _⟩ := gRight_iff.1 h
    exact gNod_bd h2 h4 _ (by omega)
  · omega
theorem gLeaves_bd (a d l : Int) : 0 ≤ gLeaves a d l ∧ gLeaves a d l ≤ 64 := by
  unfold gLeaves
  split
  · rename_i h
    obtain ⟨h2, h4, h1, h3, _⟩ := gRight_iff.1 h
    have := gPow_bd h2 h4 d.toNat (by omega)
    omega
  · omega
theorem gPages_bd (a d l : Int) : 0 ≤ gPages a d l ∧ gPages a d l ≤ 85 := by
  have h1 := gNodes_bd a d l
  have h2 := gLeaves_bd a d l
  unfold gPages; omega
theorem gPages_no {a d l : Int} (h : gRight a d l = false) : gPages a d l = 0 := by simp [gPages, gNodes, gLeaves, h]
theorem gPages_pos {a d l : Int} (h : gRight a d l = true) : 2 ≤ gPages a d l := by
  obtain ⟨h2, h4, h1, h3, _⟩ := gRight_iff.1 h
  have e1 := gNod_pos h2 h4 d.toNat (by omega) (by omega)
  have e2 := gPow_bd h2 h4 d.toNat (by omega)
  simp only [gPages, gNodes, gLeaves, h, if_true]; omega
theorem gSize_bd (a d l : Int) : 0 ≤ gSize a d l ∧ gSize a d l ≤ 238 := by
  have h1 := gPages_bd a d l
  unfold gSize
  split
  · rename_i h
    obtain ⟨h2, h4, h1, h3, _⟩ := gRight_iff.1 h
    omega
  · omega
theorem gSize_yes {a d l : Int} (h : gRight a d l = true) : gSize a d l = 4 + l + 2 * gPages a d l := by simp [gSize, h]
theorem gSize_no {a d l : Int} (h : gRight a d l = false) : gSize a d l = 0 := by simp [gSize, h]
theorem gLeast_right (a d l : Int) : (0 < gLeast a d ∧ gLeast a d ≤ l ∧ l ≤ 64) ↔ gRight a d l = true := by
  rw [gRight_iff]; unfold gLeast; split <;> omega
theorem gLeast_bd (a d : Int) : 0 ≤ gLeast a d ∧ gLeast a d ≤ 5 := by unfold gLeast; split <;> omega

/-- What stands at a place: 0 the root, 1 the super, 2 the log, 3 the area, 4 nothing; and which one. -/
def gWhere (a d l p : Int) : Int × Int :=
  if p < 0 ∨ gSize a d l ≤ p then (4, 0) else if p < 2 then (0, p) else if p < 4 then (1, p - 2) else if p < 4 + l then (2, p - 4) else (3, p - 4 - l)

end Go.Proofs.Ytdjndeleafhglaa
namespace Go.Proofs.Ytdjndeleafhglaa
open Go.RowKit

set_option maxHeartbeats 400000 in
theorem Least_any (a d l : Int) (w : World) :
    Calls Try.prog 26 #[.agg #[.int .i64 a, .int .i64 d, .int .i64 l]] w fun e w' => e = .returned (.int .i64 (gLeast a d)) ∧ Below w.heap.size w w' := by
  go_enter Try.func26, Try.ntmps26
  go_wp2
  all_goals
    go_ret
    exact ⟨ret_int (by unfold gLeast; first | rw [if_pos (by omega)] | (rw [if_neg (by omega)])), Bbox _ _⟩

set_option maxHeartbeats 400000 in
theorem RLeast_any (a d l : Int) (w : World) :
    Calls Try.prog 27 #[.agg #[.int .i64 a, .int .i64 d, .int .i64 l]] w fun e w' => e = .returned (.int .i64 (gLeast a d)) ∧ Below w.heap.size w w' := by
  go_enter Try.func27, Try.ntmps27
  go_wp2
  all_goals
    go_ret
    exact ⟨ret_int (by unfold gLeast; first | rw [if_pos (by omega)] | (rw [if_neg (by omega)])), Bbox _ _⟩

set_option maxHeartbeats 400000 in
theorem Right_any (a d l : Int) (w : World) :
    Calls Try.prog 24 #[.agg #[.int .i64 a, .int .i64 d, .int .i64 l]] w fun e w' => e = .returned (.bool (gRight a d l)) ∧ Below w.heap.size w w' := by
  have key : ∀ b : Bool, (b = true ↔ (0 < gLeast a d ∧ gLeast a d ≤ l ∧ l ≤ 64)) → b = gRight a d l := fun b h => by rw [Bool.eq_iff_iff, h]; exact gLeast_right a d l
  have Hkey := Lib.hid key; clear key
  go_enter Try.func24, Try.ntmps24
  go_wp2_with (go_at_call 26; refine (Least_any _ _ _ _).mono ?_; rintro e w1 ⟨rfl, hb⟩; obtain ⟨hc, hf⟩ := bcell hb)
  all_goals
    go_ret
    exact ⟨ret_bool (Hkey.out _ (by simp; omega)), Bthen (Bbox _ _) hb⟩

set_option maxHeartbeats 400000 in
theorem RRight_any (a d l : Int) (w : World) :
    Calls Try.prog 25 #[.agg #[.int .i64 a, .int .i64 d, .int .i64 l]] w fun e w' => e = .returned (.bool (gRight a d l)) ∧ Below w.heap.size w w' := by
  have key : ∀ b : Bool, (b = true ↔ (0 < gLeast a d ∧ gLeast a d ≤ l ∧ l ≤ 64)) → b = gRight a d l := fun b h => by rw [Bool.eq_iff_iff, h]; exact gLeast_right a d l
  have Hkey := Lib.hid key; clear key
  have hcw := @BW.cell
  by_cases h1 : 0 < gLeast a d
  · by_cases h2 : gLeast a d ≤ l
    · go_enter Try.func25, Try.ntmps25
      go_wp2
      refine wp_region_below (by kernel_rfl) (by kernel_rfl) ?_
      repeat (quiet_step ((go_at_call 27; exact below_of (RLeast_any _ _ _ _))))
      refine wpQuiet_nil ?_
      rintro _ ⟨x, rfl⟩
      go_wp2
      go_ret
      exact ⟨ret_bool (Hkey.out _ (by simp; try omega)), x.then (Bbox _ _)⟩
    · have d2 : decide (gLeast a d ≤ l) = false := by simpa using h2
      go_enter Try.func25, Try.ntmps25
      go_wp2
      refine wp_region_below (by kernel_rfl) (by kernel_rfl) ?_
      repeat (quiet_step ((go_at_call 27; exact below_of (RLeast_any _ _ _ _))))
      refine wpQuiet_nil ?_
      rintro _ ⟨x, rfl⟩
      go_wp2
      go_ret
      exact ⟨ret_bool (Hkey.out _ (by simp; try omega)), x.then (Bbox _ _)⟩
  · have d1 : decide (0 < gLeast a d) = false := by simpa using h1
    go_enter Try.func25, Try.ntmps25
    go_wp2
    refine wp_region_below (by kernel_rfl) (by kernel_rfl) ?_
    repeat (quiet_step ((go_at_call 27; exact below_of (RLeast_any _ _ _ _))))
    refine wpQuiet_nil ?_
    rintro _ ⟨x, rfl⟩
    go_wp2
    go_ret
    exact ⟨ret_bool (Hkey.out _ (by simp; try omega)), x.then (Bbox _ _)⟩

set_option maxHeartbeats 400000 in
theorem levels_no (a d l : Int) (w : World) (hr : gRight a d l = false) :
    Calls Try.prog 129 #[.agg #[.int .i64 a, .int .i64 d, .int .i64 l]] w fun e w' => e = .returned (.tuple #[.int .i64 0, .int .i64 0]) ∧ Below w.heap.size w w' := by
  go_enter Try.func129, Try.ntmps129
  go_wp2_with (go_at_call 24; refine (Right_any _ _ _ _).mono ?_; rintro e w1 ⟨rfl, hb⟩; obtain ⟨hc, hf⟩ := bcell hb)
  go_ret2
  exact ⟨rfl, Bthen (Bbox _ _) hb⟩

set_option maxHeartbeats 400000 in
theorem levels_yes (a d l : Int) (w : World) (hr : gRight a d l = true) :
    Calls Try.prog 129 #[.agg #[.int .i64 a, .int .i64 d, .int .i64 l]] w fun e w' => e = .returned (.tuple #[.int .i64 (gNod a d.toNat), .int .i64 (a ^ d.toNat)]) ∧ Below w.heap.size w w' := by
  obtain ⟨h2, h4, h1, h3, _⟩ := gRight_iff.1 hr
  go_enter Try.func129, Try.ntmps129
  go_wp2_with (go_at_call 24; refine (Right_any _ _ _ _).mono ?_; rintro e w1 ⟨rfl, hb⟩; obtain ⟨hc, hf⟩ := bcell hb)
  go_loop [2, 3, 9] (fun n m i => ∃ k : Nat, (k : Int) ≤ d ∧ i = .int .i64 k ∧ n = .int .i64 (gNod a k) ∧ m = .int .i64 (a ^ k)) (fun _ _ i => (d - intOf i).toNat)
  case atStart => exact ⟨0, by omega, rfl, rfl, by rw [Int.pow_zero]⟩
  case round =>
    obtain ⟨k, hk, rfl, rfl, rfl⟩ := hrel
    have b1 := gNod_bd h2 h4 k (by omega)
    have b2 := gPow_bd h2 h4 k (by omega)
    by_cases hlt : (k : Int) < d
    · have b3 := gPow_bd h2 h4 (k + 1) (by omega)
      rw [Int.pow_succ] at b3
      obtain ⟨b4, b5⟩ := b3
      go_wp2
      go_round
      case rel => exact ⟨k + 1, by omega, by go_num, rfl, by rw [Int.pow_succ]⟩
      case measure => simp [intOf]; omega
    · have hkd : d.toNat = k := by omega
      go_wp2
      go_ret2
      exact ⟨ret_ii rfl rfl, Bthen (Bbox _ _) hb⟩

/-- Both answers of 'levels' at once. -/
theorem levels_any (a d l : Int) (w : World) :
    Calls Try.prog 129 #[.agg #[.int .i64 a, .int .i64 d, .int .i64 l]] w fun e w' => e = .returned (.tuple #[.int .i64 (gNodes a d l), .int .i64 (gLeaves a d l)]) ∧ Below w.heap.size w w' := by
  cases hr : gRight a d l with
  | true => exact (levels_yes a d l w hr).mono fun e w' ⟨h, hb⟩ => ⟨by rw [h]; simp [gNodes, gLeaves, hr], hb⟩
  | false => exact (levels_no a d l w hr).mono fun e w' ⟨h, hb⟩ => ⟨by rw [h]; simp [gNodes, gLeaves, hr], hb⟩

set_option maxHeartbeats 400000 in
theorem Nodes_any (a d l : Int) (w : World) :
    Calls Try.prog 28 #[.agg #[.int .i64 a, .int .i64 d, .int .i64 l]] w fun e w' => e = .returned (.int .i64 (gNodes a d l)) ∧ Below w.heap.size w w' := by
  have b1 := gNodes_bd a d l
  have b2 := gLeaves_bd a d l
  go_enter Try.func28, Try.ntmps28
  go_wp2_with (go_at_call 129; refine (levels_any _ _ _ _).mono ?_; rintro e w1 ⟨rfl, hb⟩)
  go_ret
  exact ⟨ret_int rfl, Bthen (Bbox _ _) hb⟩

set_option maxHeartbeats 400000 in
theorem Leaves_any (a d l : Int) (w : World) :
    Calls Try.prog 30 #[.agg #[.int .i64 a, .int .i64 d, .int .i64 l]] w fun e w' => e = .returned (.int .i64 (gLeaves a d l)) ∧ Below w.heap.size w w' := by
  have b1 := gNodes_bd a d l
  have b2 := gLeaves_bd a d l
  go_enter Try.func30, Try.ntmps30
  go_wp2_with (go_at_call 129; refine (levels_any _ _ _ _).mono ?_; rintro e w1 ⟨rfl, hb⟩)
  go_ret
  exact ⟨ret_int rfl, Bthen (Bbox _ _) hb⟩

set_option maxHeartbeats 400000 in
theorem Pages_any (a d l : Int) (w : World) :
    Calls Try.prog 32 #[.agg #[.int .i64 a, .int .i64 d, .int .i64 l]] w fun e w' => e = .returned (.int .i64 (gPages a d l)) ∧ Below w.heap.size w w' := by
  have b1 := gNodes_bd a d l
  have b2 := gLeaves_bd a d l
  go_enter Try.func32, Try.ntmps32
  go_wp2_with (go_at_call 129; refine (levels_any _ _ _ _).mono ?_; rintro e w1 ⟨rfl, hb⟩)
  go_ret
  exact ⟨ret_int rfl, Bthen (Bbox _ _) hb⟩

set_option maxHeartbeats 400000 in
theorem parts_any (a d l : Int) (w : World) :
    Calls Try.prog 130 #[.agg #[.int .i64 a, .int .i64 d, .int .i64 l]] w fun e w' => e = .returned (.agg #[.string ⟨#[114, 111, 111, 116]⟩, .int .i64 2, .string ⟨#[115, 117, 112, 101, 114]⟩, .int .i64 2, .string ⟨#[108, 111, 103]⟩, .int .i64 l, .string ⟨#[97, 114, 101, 97]⟩, .int .i64 (2 * gPages a d l)]) ∧ Below w.heap.size w w' := by
  have b1 := gPages_bd a d l
  have hw2 : IntKind.i64.wrap (2 * gPages a d l) = 2 * gPages a d l := IntWalk.i64_in _ (by omega)
  go_enter Try.func130, Try.ntmps130
  go_wp2
  refine wp_region_in (BelowW _) [(0, true), (1, true), (2, true), (3, true), (4, true), (5, true), (6, false), (7, true), (8, true), (9, true), (10, false)] (by kernel_rfl) (by kernel_rfl) (fun _ _ _ _ _ h => h) (inB_drew _) (fun hne => ?_)
  have hcx := @inB_cell
  simp only [permOps, List.map_cons, List.map_nil, List.getD_cons_zero, List.getD_cons_succ]
  (repeat ((with_reducible refine wpPerm_F ?_); intro K hK; go_simp; refine hK _ _ ?_; clear hK K))
  (with_reducible refine wpPerm_E rfl ?_); intro K hK
  go_wp2_with (go_at_call 32; refine (Pages_any _ _ _ _).mono ?_; rintro e w1 ⟨rfl, hb⟩)
  refine ⟨inB_step (inB_drew _) hb, ?_⟩
  obtain ⟨hc, hf⟩ := bcell hb
  (repeat ((with_reducible refine wpPerm_F ?_); intro K hK; go_simp; refine hK _ _ ?_; clear hK K))
  (with_reducible refine wpPerm_L rfl ?_); intro K hK
  clear hcx hw2
  go_wp2
  have hz := hb.size
  refine bodyPost_ret (v := .agg #[.string ⟨#[114, 111, 111, 116]⟩, .int .i64 2, .string ⟨#[115, 117, 112, 101, 114]⟩, .int .i64 2, .string ⟨#[108, 111, 103]⟩, .int .i64 l, .string ⟨#[97, 114, 101, 97]⟩, .int .i64 (2 * gPages a d l)]) ?_ rfl ⟨rfl, ?_⟩
  · simp [results, Try.results130, go_sem, hc]
  · ((repeat (first | (with_reducible exact Bnil _) | (with_reducible assumption) | (with_reducible refine Bset ?_ ?_ _) | (with_reducible refine Bnew ?_ _) | (with_reducible refine Bdrew ?_) | (with_reducible refine Bthen ?_ (by assumption)))); all_goals (simp; try omega))

end Go.Proofs.Ytdjndeleafhglaa
namespace Go.Proofs.Ytdjndeleafhglaa
open Go.RowKit

theorem part0 (l q : Int) (w : World) : (Instr.index 166 (.agg #[.string ⟨#[114, 111, 111, 116]⟩, .int .i64 2, .string ⟨#[115, 117, 112, 101, 114]⟩, .int .i64 2, .string ⟨#[108, 111, 103]⟩, .int .i64 l, .string ⟨#[97, 114, 101, 97]⟩, .int .i64 q]) (.int .i64 0)).run Try.prog w = .ok (.agg #[.string ⟨#[114, 111, 111, 116]⟩, .int .i64 2]) w := by kernel_rfl
theorem part1 (l q : Int) (w : World) : (Instr.index 166 (.agg #[.string ⟨#[114, 111, 111, 116]⟩, .int .i64 2, .string ⟨#[115, 117, 112, 101, 114]⟩, .int .i64 2, .string ⟨#[108, 111, 103]⟩, .int .i64 l, .string ⟨#[97, 114, 101, 97]⟩, .int .i64 q]) (.int .i64 1)).run Try.prog w = .ok (.agg #[.string ⟨#[115, 117, 112, 101, 114]⟩, .int .i64 2]) w := by kernel_rfl
theorem part2 (l q : Int) (w : World) : (Instr.index 166 (.agg #[.string ⟨#[114, 111, 111, 116]⟩, .int .i64 2, .string ⟨#[115, 117, 112, 101, 114]⟩, .int .i64 2, .string ⟨#[108, 111, 103]⟩, .int .i64 l, .string ⟨#[97, 114, 101, 97]⟩, .int .i64 q]) (.int .i64 2)).run Try.prog w = .ok (.agg #[.string ⟨#[108, 111, 103]⟩, .int .i64 l]) w := by kernel_rfl
theorem part3 (l q : Int) (w : World) : (Instr.index 166 (.agg #[.string ⟨#[114, 111, 111, 116]⟩, .int .i64 2, .string ⟨#[115, 117, 112, 101, 114]⟩, .int .i64 2, .string ⟨#[108, 111, 103]⟩, .int .i64 l, .string ⟨#[97, 114, 101, 97]⟩, .int .i64 q]) (.int .i64 3)).run Try.prog w = .ok (.agg #[.string ⟨#[97, 114, 101, 97]⟩, .int .i64 q]) w := by kernel_rfl

set_option maxHeartbeats 400000 in
theorem Size_no (a d l : Int) (w : World) (hr : gRight a d l = false) :
    Calls Try.prog 34 #[.agg #[.int .i64 a, .int .i64 d, .int .i64 l]] w fun e w' => e = .returned (.int .i64 0) ∧ Below w.heap.size w w' := by
  go_enter Try.func34, Try.ntmps34
  go_wp2_with (go_at_call 24; refine (Right_any _ _ _ _).mono ?_; rintro e w1 ⟨rfl, hb⟩; obtain ⟨hc, hf⟩ := bcell hb)
  go_ret
  exact ⟨ret_int rfl, Bthen (Bbox _ _) hb⟩

set_option maxHeartbeats 1000000 in
theorem Size_yes (a d l : Int) (w : World) (hr : gRight a d l = true) :
    Calls Try.prog 34 #[.agg #[.int .i64 a, .int .i64 d, .int .i64 l]] w fun e w' => e = .returned (.int .i64 (4 + l + 2 * gPages a d l)) ∧ Below w.heap.size w w' := by
  have b1 := gPages_bd a d l
  obtain ⟨h2, h4, h1, h3, _⟩ := gRight_iff.1 hr
  go_enter Try.func34, Try.ntmps34
  go_wp2_with (go_at_call 24; refine (Right_any _ _ _ _).mono ?_; rintro e w1 ⟨rfl, hb⟩; obtain ⟨hc, hf⟩ := bcell hb)
  refine (parts_any _ _ _ _).mono ?_
  rintro e w2 ⟨rfl, hb2⟩
  have hs2 := hb2.size
  have hs1 := hb.size
  have i0 := part0 l (2 * gPages a d l)
  have i1 := part1 l (2 * gPages a d l)
  have i2 := part2 l (2 * gPages a d l)
  have i3 := part3 l (2 * gPages a d l)
  go_wp2_with fail
  refine wp_loop_rounds 5 ?_
  iterate 5 (rw [rounds_succ]; go_wp2_with fail)
  go_ret
  exact ⟨ret_int (by omega), by ((repeat (first | (with_reducible exact Bnil _) | (with_reducible assumption) | (with_reducible refine Bset ?_ ?_ _) | (with_reducible refine Bnew ?_ _) | (with_reducible refine Bdrew ?_) | (with_reducible refine Bthen ?_ (by assumption)))); all_goals (simp; try omega))⟩

theorem Size_any (a d l : Int) (w : World) :
    Calls Try.prog 34 #[.agg #[.int .i64 a, .int .i64 d, .int .i64 l]] w fun e w' => e = .returned (.int .i64 (gSize a d l)) ∧ Below w.heap.size w w' := by
  cases hr : gRight a d l with
  | true => rw [gSize_yes hr]; exact Size_yes a d l w hr
  | false => rw [gSize_no hr]; exact Size_no a d l w hr

set_option maxHeartbeats 400000 in
theorem Root_any (n : Int) (w : World) (h0 : 0 ≤ n) (h1 : n < 18446744073709551616) :
    Calls Try.prog 37 #[.int .u64 n] w fun e w' => e = .returned (.int .i64 (n % 2)) ∧ w = w' := by
  go_enter Try.func37, Try.ntmps37
  go_wp2
  go_ret
  exact ⟨ret_int (by go_num), rfl⟩

set_option maxHeartbeats 400000 in
theorem Super_any (n : Int) (w : World) (h0 : 0 ≤ n) (h1 : n < 18446744073709551616) :
    Calls Try.prog 38 #[.int .u64 n] w fun e w' => e = .returned (.int .i64 (2 + n % 2)) ∧ w = w' := by
  go_enter Try.func38, Try.ntmps38
  go_wp2
  go_ret
  exact ⟨ret_int (by go_num), rfl⟩

end Go.Proofs.Ytdjndeleafhglaa
namespace Go.Proofs.Ytdjndeleafhglaa
open Go.RowKit

set_option maxHeartbeats 400000 in
theorem Log_any (a d l i : Int) (w : World) :
    Calls Try.prog 39 #[.agg #[.int .i64 a, .int .i64 d, .int .i64 l], .int .i64 i] w fun e w' => e = .returned (.int .i64 (gLog a d l i)) ∧ Below w.heap.size w w' := by
  cases hr : gRight a d l with
  | false =>
    go_enter Try.func39, Try.ntmps39
    go_wp2_with (go_at_call 24; refine (Right_any _ _ _ _).mono ?_; rintro e w1 ⟨rfl, hb⟩; obtain ⟨hc, hf⟩ := bcell hb)
    go_ret
    exact ⟨ret_int (by simp [gLog, hr]), Bthen (Bbox _ _) hb⟩
  | true =>
    obtain ⟨h2, h4, h1, h3, h5, h6⟩ := gRight_iff.1 hr
    by_cases h0 : i < 0
    · go_enter Try.func39, Try.ntmps39
      go_wp2_with (go_at_call 24; refine (Right_any _ _ _ _).mono ?_; rintro e w1 ⟨rfl, hb⟩; obtain ⟨hc, hf⟩ := bcell hb)
      go_ret
      exact ⟨ret_int (by unfold gLog; rw [if_pos (Or.inr h0)]), Bthen (Bbox _ _) hb⟩
    · have hm0 := Int.emod_nonneg i (show l ≠ 0 by omega)
      have hm1 := Int.emod_lt_of_pos i (show 0 < l by omega)
      go_enter Try.func39, Try.ntmps39
      go_wp2_with (go_at_call 24; refine (Right_any _ _ _ _).mono ?_; rintro e w1 ⟨rfl, hb⟩; obtain ⟨hc, hf⟩ := bcell hb)
      go_ret
      exact ⟨ret_int (by unfold gLog; rw [if_neg (by simp [hr]; omega)]), Bthen (Bbox _ _) hb⟩

set_option maxHeartbeats 400000 in
theorem Area_any (a d l n i : Int) (w : World) (h0 : 0 ≤ n) (h1 : n < 18446744073709551616) :
    Calls Try.prog 40 #[.agg #[.int .i64 a, .int .i64 d, .int .i64 l], .int .u64 n, .int .i64 i] w fun e w' => e = .returned (.int .i64 (gArea a d l n i)) ∧ Below w.heap.size w w' := by
  have b1 := gPages_bd a d l
  by_cases hi : i < 0 ∨ gPages a d l ≤ i
  · by_cases hi0 : i < 0
    all_goals
      go_enter Try.func40, Try.ntmps40
      go_wp2_with (go_at_call 32; refine (Pages_any _ _ _ _).mono ?_; rintro e w1 ⟨rfl, hb⟩; obtain ⟨hc, hf⟩ := bcell hb)
      go_ret
      exact ⟨ret_int (by unfold gArea; rw [if_pos hi]), Bthen (Bbox _ _) hb⟩
  · have hr : gRight a d l = true := by
      cases h : gRight a d l with
      | true => rfl
      | false => have := gPages_no h; omega
    obtain ⟨h2, h4, h7, h3, h5, h6⟩ := gRight_iff.1 hr
    have m1 : n % 2 * gPages a d l ≤ 85 := by
      rcases Int.emod_two_eq n with h | h <;> rw [h] <;> omega
    have m0 : 0 ≤ n % 2 * gPages a d l := by
      rcases Int.emod_two_eq n with h | h <;> rw [h] <;> omega
    have hi1 : ¬ i < 0 := by omega
    have hi2 : ¬ gPages a d l ≤ i := by omega
    go_enter Try.func40, Try.ntmps40
    go_wp2_with (go_at_call 32; refine (Pages_any _ _ _ _).mono ?_; rintro e w1 ⟨rfl, hb⟩; obtain ⟨hc, hf⟩ := bcell hb)
    go_ret
    exact ⟨ret_int (by unfold gArea; rw [if_neg (by omega)]), Bthen (Bbox _ _) hb⟩

set_option maxHeartbeats 400000 in
theorem RNodes_any (a d l : Int) (w : World) :
    Calls Try.prog 29 #[.agg #[.int .i64 a, .int .i64 d, .int .i64 l]] w fun e w' => e = .returned (.int .i64 (gNodes a d l)) ∧ Below w.heap.size w w' := by
  cases hr : gRight a d l with
  | false =>
    go_enter Try.func29, Try.ntmps29
    go_wp2_with (go_at_call 25; refine (RRight_any _ _ _ _).mono ?_; rintro e w1 ⟨rfl, hb⟩; obtain ⟨hc, hf⟩ := bcell hb)
    go_ret
    exact ⟨ret_int (by simp [gNodes, hr]), Bthen (Bbox _ _) hb⟩
  | true =>
    obtain ⟨h2, h4, h1, h3, _⟩ := gRight_iff.1 hr
    go_enter Try.func29, Try.ntmps29
    go_wp2_with (go_at_call 25; refine (RRight_any _ _ _ _).mono ?_; rintro e w1 ⟨rfl, hb⟩; obtain ⟨hc, hf⟩ := bcell hb)
    go_loop [3, 4, 5] (fun m n i => ∃ k : Nat, (k : Int) ≤ d ∧ i = .int .i64 k ∧ n = .int .i64 (gNod a k) ∧ m = .int .i64 (a ^ k)) (fun _ _ i => (d - intOf i).toNat)
    case atStart => exact ⟨0, by omega, rfl, rfl, by rw [Int.pow_zero]⟩
    case round =>
      obtain ⟨k, hk, rfl, rfl, rfl⟩ := hrel
      have b1 := gNod_bd h2 h4 k (by omega)
      have b2 := gPow_bd h2 h4 k (by omega)
      by_cases hlt : (k : Int) < d
      · have b3 := gPow_bd h2 h4 (k + 1) (by omega)
        rw [Int.pow_succ] at b3
        obtain ⟨b4, b5⟩ := b3
        go_wp2
        go_round
        case rel => exact ⟨k + 1, by omega, by go_num, rfl, by rw [Int.pow_succ]⟩
        case measure => simp [intOf]; omega
      · have hkd : d.toNat = k := by omega
        go_wp2
        go_ret
        exact ⟨ret_int (by simp [gNodes, hr, hkd]), Bthen (Bbox _ _) hb⟩

set_option maxHeartbeats 400000 in
theorem RLeaves_any (a d l : Int) (w : World) :
    Calls Try.prog 31 #[.agg #[.int .i64 a, .int .i64 d, .int .i64 l]] w fun e w' => e = .returned (.int .i64 (gLeaves a d l)) ∧ Below w.heap.size w w' := by
  cases hr : gRight a d l with
  | false =>
    go_enter Try.func31, Try.ntmps31
    go_wp2_with (go_at_call 25; refine (RRight_any _ _ _ _).mono ?_; rintro e w1 ⟨rfl, hb⟩; obtain ⟨hc, hf⟩ := bcell hb)
    go_ret
    exact ⟨ret_int (by simp [gLeaves, hr]), Bthen (Bbox _ _) hb⟩
  | true =>
    obtain ⟨h2, h4, h1, h3, _⟩ := gRight_iff.1 hr
    go_enter Try.func31, Try.ntmps31
    go_wp2_with (go_at_call 25; refine (RRight_any _ _ _ _).mono ?_; rintro e w1 ⟨rfl, hb⟩; obtain ⟨hc, hf⟩ := bcell hb)
    go_loop [3, 4] (fun m i => ∃ k : Nat, (k : Int) ≤ d ∧ i = .int .i64 k ∧ m = .int .i64 (a ^ k)) (fun _ i => (d - intOf i).toNat)
    case atStart => exact ⟨0, by omega, rfl, by rw [Int.pow_zero]⟩
    case round =>
      obtain ⟨k, hk, rfl, rfl⟩ := hrel
      have b2 := gPow_bd h2 h4 k (by omega)
      by_cases hlt : (k : Int) < d
      · have b3 := gPow_bd h2 h4 (k + 1) (by omega)
        rw [Int.pow_succ] at b3
        obtain ⟨b4, b5⟩ := b3
        go_wp2
        go_round
        case rel => exact ⟨k + 1, by omega, by go_num, by rw [Int.pow_succ]⟩
        case measure => simp [intOf]; omega
      · have hkd : d.toNat = k := by omega
        go_wp2
        go_ret
        exact ⟨ret_int (by simp [gLeaves, hr, hkd]), Bthen (Bbox _ _) hb⟩

set_option maxHeartbeats 400000 in
theorem RPages_any (a d l : Int) (w : World) :
    Calls Try.prog 33 #[.agg #[.int .i64 a, .int .i64 d, .int .i64 l]] w fun e w' => e = .returned (.int .i64 (gPages a d l)) ∧ Below w.heap.size w w' := by
  have b1 := gNodes_bd a d l
  have b2 := gLeaves_bd a d l
  have hw : IntKind.i64.wrap (gNodes a d l + gLeaves a d l) = gPages a d l := IntWalk.i64_in _ (by omega)
  have hcw := @BW.cell
  go_enter Try.func33, Try.ntmps33
  go_wp2
  refine wp_region_below (by kernel_rfl) (by kernel_rfl) ?_
  repeat (quiet_step ((first | (go_at_call 29; exact below_of (RNodes_any _ _ _ _)) | (go_at_call 31; exact below_of (RLeaves_any _ _ _ _)))))
  refine wpQuiet_nil ?_
  rintro _ ⟨x, rfl⟩
  go_wp2
  go_ret
  exact ⟨ret_int rfl, x.then (Bbox _ _)⟩

set_option maxHeartbeats 400000 in
theorem RSize_any (a d l : Int) (w : World) :
    Calls Try.prog 35 #[.agg #[.int .i64 a, .int .i64 d, .int .i64 l]] w fun e w' => e = .returned (.int .i64 (gSize a d l)) ∧ Below w.heap.size w w' := by
  have b1 := gPages_bd a d l
  cases hr : gRight a d l with
  | false =>
    go_enter Try.func35, Try.ntmps35
    go_wp2_with (go_at_call 25; refine (RRight_any _ _ _ _).mono ?_; rintro e w1 ⟨rfl, hb⟩; obtain ⟨hc, hf⟩ := bcell hb)
    go_ret
    exact ⟨ret_int (by simp [gSize, hr]), Bthen (Bbox _ _) hb⟩
  | true =>
    obtain ⟨h2, h4, h1, h3, h5, h6⟩ := gRight_iff.1 hr
    have e1 : IntKind.i64.wrap (4 + l) = 4 + l := IntWalk.i64_in _ (by omega)
    have e2 : IntKind.i64.wrap (2 * gPages a d l) = 2 * gPages a d l := IntWalk.i64_in _ (by omega)
    have e3 : IntKind.i64.wrap (4 + l + 2 * gPages a d l) = 4 + l + 2 * gPages a d l := IntWalk.i64_in _ (by omega)
    have hcw := @BW.cell
    go_enter Try.func35, Try.ntmps35
    go_wp2_with (go_at_call 25; refine (RRight_any _ _ _ _).mono ?_; rintro e w1 ⟨rfl, hb⟩; obtain ⟨hc, hf⟩ := bcell hb)
    have hz : w.heap.size < w1.heap.size := by have := hb.size; simp at this; omega
    refine wp_region_below (by kernel_rfl) (by kernel_rfl) ?_
    repeat (quiet_step ((go_at_call 33; exact below_of (RPages_any _ _ _ _))))
    refine wpQuiet_nil ?_
    rintro _ ⟨x, rfl⟩
    clear e1 e2 e3
    go_wp2
    go_ret
    exact ⟨ret_int (by simp [gSize, hr]), x.then (Bthen (Bbox _ _) hb)⟩

/-- The word that stands for a part of a disk. -/
def gWord (k : Int) : ByteArray := if k = 0 then ⟨#[114, 111, 111, 116]⟩ else if k = 1 then ⟨#[115, 117, 112, 101, 114]⟩ else if k = 2 then ⟨#[108, 111, 103]⟩ else if k = 3 then ⟨#[97, 114, 101, 97]⟩ else ⟨#[]⟩

theorem ret_si {k : IntKind} {s t : ByteArray} {a b : Int} (h : s = t) (h' : a = b) : Ending.returned (.tuple #[.string s, .int k a]) = .returned (.tuple #[.string t, .int k b]) := by rw [h, h']
theorem gWhere_no {a d l p : Int} (h : p < 0 ∨ gSize a d l ≤ p) : gWhere a d l p = (4, 0) := by unfold gWhere; rw [if_pos h]
theorem gWhere_root {a d l p : Int} (h : ¬ (p < 0 ∨ gSize a d l ≤ p)) (h2 : p < 2) : gWhere a d l p = (0, p) := by unfold gWhere; rw [if_neg h, if_pos h2]
theorem gWhere_super {a d l p : Int} (h : ¬ (p < 0 ∨ gSize a d l ≤ p)) (h2 : ¬ p < 2) (h4 : p < 4) : gWhere a d l p = (1, p - 2) := by unfold gWhere; rw [if_neg h, if_neg h2, if_pos h4]
theorem gWhere_log {a d l p : Int} (h : ¬ (p < 0 ∨ gSize a d l ≤ p)) (h2 : ¬ p < 2) (h4 : ¬ p < 4) (hl : p < 4 + l) : gWhere a d l p = (2, p - 4) := by unfold gWhere; rw [if_neg h, if_neg h2, if_neg h4, if_pos hl]
theorem gWhere_area {a d l p : Int} (h : ¬ (p < 0 ∨ gSize a d l ≤ p)) (h2 : ¬ p < 2) (h4 : ¬ p < 4) (hl : ¬ p < 4 + l) : gWhere a d l p = (3, p - 4 - l) := by unfold gWhere; rw [if_neg h, if_neg h2, if_neg h4, if_neg hl]

set_option maxHeartbeats 400000 in
theorem RLog_any (a d l i : Int) (w : World) :
    Calls Try.prog 44 #[.agg #[.int .i64 a, .int .i64 d, .int .i64 l], .int .i64 i] w fun e w' => e = .returned (.int .i64 (gLog a d l i)) ∧ Below w.heap.size w w' := by
  cases hr : gRight a d l with
  | false =>
    go_enter Try.func44, Try.ntmps44
    go_wp2_with (go_at_call 25; refine (RRight_any _ _ _ _).mono ?_; rintro e w1 ⟨rfl, hb⟩; obtain ⟨hc, hf⟩ := bcell hb)
    go_ret
    exact ⟨ret_int (by simp [gLog, hr]), Bthen (Bbox _ _) hb⟩
  | true =>
    obtain ⟨h2, h4, h1, h3, h5, h6⟩ := gRight_iff.1 hr
    by_cases h0 : i < 0
    · go_enter Try.func44, Try.ntmps44
      go_wp2_with (go_at_call 25; refine (RRight_any _ _ _ _).mono ?_; rintro e w1 ⟨rfl, hb⟩; obtain ⟨hc, hf⟩ := bcell hb)
      go_ret
      exact ⟨ret_int (by unfold gLog; rw [if_pos (Or.inr h0)]), Bthen (Bbox _ _) hb⟩
    · have hm0 := Int.emod_nonneg i (show l ≠ 0 by omega)
      have hm1 := Int.emod_lt_of_pos i (show 0 < l by omega)
      go_enter Try.func44, Try.ntmps44
      go_wp2_with (go_at_call 25; refine (RRight_any _ _ _ _).mono ?_; rintro e w1 ⟨rfl, hb⟩; obtain ⟨hc, hf⟩ := bcell hb)
      go_ret
      exact ⟨ret_int (by unfold gLog; rw [if_neg (by simp [hr]; omega)]), Bthen (Bbox _ _) hb⟩

/-- The reference says -1 where the geometry may not be; so does the number, for then there are no pages. -/
theorem gArea_no {a d l n i : Int} (hr : gRight a d l = false) : gArea a d l n i = -1 := by
  unfold gArea; rw [gPages_no hr, if_pos (by omega)]

set_option maxHeartbeats 1000000 in
theorem RArea_any (a d l n i : Int) (w : World) (h0 : 0 ≤ n) (_h1 : n < 18446744073709551616) :
    Calls Try.prog 45 #[.agg #[.int .i64 a, .int .i64 d, .int .i64 l], .int .u64 n, .int .i64 i] w fun e w' => e = .returned (.int .i64 (gArea a d l n i)) ∧ Below w.heap.size w w' := by
  have b1 := gPages_bd a d l
  cases hr : gRight a d l with
  | false =>
    go_enter Try.func45, Try.ntmps45
    go_wp2_with (go_at_call 25; refine (RRight_any _ _ _ _).mono ?_; rintro e w1 ⟨rfl, hb⟩; obtain ⟨hc, hf⟩ := bcell hb)
    go_ret
    exact ⟨ret_int (by rw [gArea_no hr]), Bthen (Bbox _ _) hb⟩
  | true =>
    by_cases hi : i < 0 ∨ gPages a d l ≤ i
    · have hz : ∀ w1, Below (w.heap.size + 1) (w.alloc (.cells #[.int .i64 a, .int .i64 d, .int .i64 l] 23)) w1 → w.heap.size < w1.heap.size := fun w1 hb => by have := hb.size; simp at this; omega
      by_cases hi0 : i < 0
      · go_enter Try.func45, Try.ntmps45
        go_wp2_with (go_at_call 25; refine (RRight_any _ _ _ _).mono ?_; rintro e w1 ⟨rfl, hb⟩; obtain ⟨hc, hf⟩ := bcell hb)
        go_ret
        exact ⟨ret_int (by unfold gArea; rw [if_pos hi]), Bthen (Bbox _ _) hb⟩
      · go_enter Try.func45, Try.ntmps45
        go_wp2_with (go_at_call 25; refine (RRight_any _ _ _ _).mono ?_; rintro e w1 ⟨rfl, hb⟩; obtain ⟨hc, hf⟩ := bcell hb)
        refine (RPages_any _ _ _ _).mono ?_
        rintro e w2 ⟨rfl, hb2⟩
        go_wp2
        go_ret
        exact ⟨ret_int (by unfold gArea; rw [if_pos hi]), Bthen (Bthen (Bbox _ _) hb) hb2⟩
    · obtain ⟨h2, h4, h7, h3, h5, h6⟩ := gRight_iff.1 hr
      have m1 : n % 2 * gPages a d l ≤ 85 := by
        rcases Int.emod_two_eq n with h | h <;> rw [h] <;> omega
      have m0 : 0 ≤ n % 2 * gPages a d l := by
        rcases Int.emod_two_eq n with h | h <;> rw [h] <;> omega
      have hi1 : ¬ i < 0 := by omega
      have hi2 : ¬ gPages a d l ≤ i := by omega
      have e1 : IntKind.i64.wrap (4 + l) = 4 + l := IntWalk.i64_in _ (by omega)
      have e2 : IntKind.i64.wrap (n.tmod 2) = n % 2 := by rw [Int.tmod_eq_emod_of_nonneg h0]; exact IntWalk.i64_in _ (by omega)
      have e3 : IntKind.i64.wrap (n % 2 * gPages a d l) = n % 2 * gPages a d l := IntWalk.i64_in _ (by omega)
      have e4 : IntKind.i64.wrap (4 + l + n % 2 * gPages a d l) = 4 + l + n % 2 * gPages a d l := IntWalk.i64_in _ (by omega)
      have e5 : IntKind.i64.wrap (4 + l + n % 2 * gPages a d l + i) = 4 + l + n % 2 * gPages a d l + i := IntWalk.i64_in _ (by omega)
      have hcw := @BW.cell
      go_enter Try.func45, Try.ntmps45
      go_wp2_with (go_at_call 25; refine (RRight_any _ _ _ _).mono ?_; rintro e w1 ⟨rfl, hb⟩; obtain ⟨hc, hf⟩ := bcell hb)
      refine (RPages_any _ _ _ _).mono ?_
      rintro e w2 ⟨rfl, hb2⟩
      have hz : w.heap.size < w1.heap.size := by have := hb.size; simp at this; omega
      have hz2 : w.heap.size < w2.heap.size := by have := hb2.size; omega
      obtain ⟨hc2, hf2⟩ := bcell hb2
      go_wp2
      refine wp_region_below (by kernel_rfl) (by kernel_rfl) ?_
      repeat (quiet_step ((go_at_call 33; exact below_of (RPages_any _ _ _ _))))
      refine wpQuiet_nil ?_
      rintro _ ⟨x, rfl⟩
      clear e1 e2 e3 e4 e5
      go_wp2
      go_ret
      exact ⟨ret_int (by unfold gArea; rw [if_neg hi]), x.then (Bthen (Bthen (Bbox _ _) hb) hb2)⟩

end Go.Proofs.Ytdjndeleafhglaa
