/-
  The walks of the package geom, the second half: Size, Root, Super, Log, Area, Where.
-/
import Derived.Test.YtdjndeleafhglaaGeoW
namespace Go.Proofs.Ytdjndeleafhglaa
open Go.RowKit

theorem part0 (l q : Int) (w : World) : (Instr.index 166 (.agg #[.string ⟨#[114, 111, 111, 116]⟩, .int .i64 2, .string ⟨#[115, 117, 112, 101, 114]⟩, .int .i64 2, .string ⟨#[108, 111, 103]⟩, .int .i64 l, .string ⟨#[97, 114, 101, 97]⟩, .int .i64 q]) (.int .i64 0)).run Try.prog w = .ok (.agg #[.string ⟨#[114, 111, 111, 116]⟩, .int .i64 2]) w := by kernel_rfl
theorem part1 (l q : Int) (w : World) : (Instr.index 166 (.agg #[.string ⟨#[114, 111, 111, 116]⟩, .int .i64 2, .string ⟨#[115, 117, 112, 101, 114]⟩, .int .i64 2, .string ⟨#[108, 111, 103]⟩, .int .i64 l, .string ⟨#[97, 114, 101, 97]⟩, .int .i64 q]) (.int .i64 1)).run Try.prog w = .ok (.agg #[.string ⟨#[115, 117, 112, 101, 114]⟩, .int .i64 2]) w := by kernel_rfl
theorem part2 (l q : Int) (w : World) : (Instr.index 166 (.agg #[.string ⟨#[114, 111, 111, 116]⟩, .int .i64 2, .string ⟨#[115, 117, 112, 101, 114]⟩, .int .i64 2, .string ⟨#[108, 111, 103]⟩, .int .i64 l, .string ⟨#[97, 114, 101, 97]⟩, .int .i64 q]) (.int .i64 2)).run Try.prog w = .ok (.agg #[.string ⟨#[108, 111, 103]⟩, .int .i64 l]) w := by kernel_rfl
theorem part3 (l q : Int) (w : World) : (Instr.index 166 (.agg #[.string ⟨#[114, 111, 111, 116]⟩, .int .i64 2, .string ⟨#[115, 117, 112, 101, 114]⟩, .int .i64 2, .string ⟨#[108, 111, 103]⟩, .int .i64 l, .string ⟨#[97, 114, 101, 97]⟩, .int .i64 q]) (.int .i64 3)).run Try.prog w = .ok (.agg #[.string ⟨#[97, 114, 101, 97]⟩, .int .i64 q]) w := by kernel_rfl

set_option maxHeartbeats 400000 in
theorem Size_no (a d l : Int) (w : World) (hr : gRight a d l = false) :
    Calls Try.prog 34 #[.agg #[.int .i64 a, .int .i64 d, .int .i64 l]] w fun e w' => e = .returned (.int .i64 0) ∧ Below w.heap.size w w' := by
  go_enter Try.func34, Try.ntmps34
  go_wp2_with (go_at_call 24; refine (Right_any _ _ _ _).mono ?_; rintro e w1 ⟨rfl, hb⟩; obtain ⟨hc, hf⟩ := bcell hb)
  go_ret
  exact ⟨ret_int rfl, Bthen (Bbox _ _) hb⟩

set_option maxHeartbeats 1000000 in
theorem Size_yes (a d l : Int) (w : World) (hr : gRight a d l = true) :
    Calls Try.prog 34 #[.agg #[.int .i64 a, .int .i64 d, .int .i64 l]] w fun e w' => e = .returned (.int .i64 (4 + l + 2 * gPages a d l)) ∧ Below w.heap.size w w' := by
  have b1 := gPages_bd a d l
  obtain ⟨h2, h4, h1, h3, _⟩ := gRight_iff.1 hr
  go_enter Try.func34, Try.ntmps34
  go_wp2_with (go_at_call 24; refine (Right_any _ _ _ _).mono ?_; rintro e w1 ⟨rfl, hb⟩; obtain ⟨hc, hf⟩ := bcell hb)
  refine (parts_any _ _ _ _).mono ?_
  rintro e w2 ⟨rfl, hb2⟩
  have hs2 := hb2.size
  have hs1 := hb.size
  have i0 := part0 l (2 * gPages a d l)
  have i1 := part1 l (2 * gPages a d l)
  have i2 := part2 l (2 * gPages a d l)
  have i3 := part3 l (2 * gPages a d l)
  go_wp2_with fail
  refine wp_loop_rounds 5 ?_
  iterate 5 (rw [rounds_succ]; go_wp2_with fail)
  go_ret
  exact ⟨ret_int (by omega), by ((repeat (first | (with_reducible exact Bnil _) | (with_reducible assumption) | (with_reducible refine Bset ?_ ?_ _) | (with_reducible refine Bnew ?_ _) | (with_reducible refine Bdrew ?_) | (with_reducible refine Bthen ?_ (by assumption)))); all_goals (simp; try omega))⟩

theorem Size_any (a d l : Int) (w : World) :
    Calls Try.prog 34 #[.agg #[.int .i64 a, .int .i64 d, .int .i64 l]] w fun e w' => e = .returned (.int .i64 (gSize a d l)) ∧ Below w.heap.size w w' := by
  cases hr : gRight a d l with
  | true => rw [gSize_yes hr]; exact Size_yes a d l w hr
  | false => rw [gSize_no hr]; exact Size_no a d l w hr

set_option maxHeartbeats 400000 in
theorem Root_any (n : Int) (w : World) (h0 : 0 ≤ n) (h1 : n < 18446744073709551616) :
    Calls Try.prog 37 #[.int .u64 n] w fun e w' => e = .returned (.int .i64 (n % 2)) ∧ w = w' := by
  go_enter Try.func37, Try.ntmps37
  go_wp2
  go_ret
  exact ⟨ret_int (by go_num), rfl⟩

set_option maxHeartbeats 400000 in
theorem Super_any (n : Int) (w : World) (h0 : 0 ≤ n) (h1 : n < 18446744073709551616) :
    Calls Try.prog 38 #[.int .u64 n] w fun e w' => e = .returned (.int .i64 (2 + n % 2)) ∧ w = w' := by
  go_enter Try.func38, Try.ntmps38
  go_wp2
  go_ret
  exact ⟨ret_int (by go_num), rfl⟩

end Go.Proofs.Ytdjndeleafhglaa
