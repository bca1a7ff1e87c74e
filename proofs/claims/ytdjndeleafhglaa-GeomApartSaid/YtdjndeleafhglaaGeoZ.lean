/-
  The walks of geom.Where, of its reference, and of 'Has'.
-/
import Derived.Test.YtdjndeleafhglaaGeoY
namespace Go.Proofs.Ytdjndeleafhglaa
open Go.RowKit

def sayWhere (a d l p : Int) : Value := .tuple #[.string (gWord (gWhere a d l p).1), .int .i64 (gWhere a d l p).2]

set_option maxHeartbeats 1000000 in
theorem RWhere_any (a d l p : Int) (w : World) (_hp : -9223372036854775808 ≤ p) :
    Calls Try.prog 43 #[.agg #[.int .i64 a, .int .i64 d, .int .i64 l], .int .i64 p] w fun e w' => e = .returned (sayWhere a d l p) ∧ Below w.heap.size w w' := by
  have b1 := gSize_bd a d l
  have hcw := @BW.cell
  unfold sayWhere
  by_cases h0 : p < 0 ∨ gSize a d l ≤ p
  · rw [gWhere_no h0]
    by_cases h1 : p < 0
    all_goals
      go_enter Try.func43, Try.ntmps43
      go_wp2_with (go_at_call 35; refine (RSize_any _ _ _ _).mono ?_; rintro e w1 ⟨rfl, hb⟩; obtain ⟨hc, hf⟩ := bcell hb)
      go_ret2
      exact ⟨ret_si rfl rfl, by ((repeat (first | (with_reducible exact Bnil _) | (with_reducible assumption) | (with_reducible refine Bset ?_ ?_ _) | (with_reducible refine Bnew ?_ _) | (with_reducible refine Bdrew ?_) | (with_reducible refine Bthen ?_ (by assumption)))); all_goals (simp; try omega))⟩
  · have hr : gRight a d l = true := by
      cases h : gRight a d l with
      | true => rfl
      | false => have := gSize_no h; omega
    obtain ⟨r2, r4, r7, r3, r5, r6⟩ := gRight_iff.1 hr
    have h1 : ¬ p < 0 := by omega
    have h2 : ¬ gSize a d l ≤ p := by omega
    by_cases k2 : p < 2
    · rw [gWhere_root h0 k2]
      go_enter Try.func43, Try.ntmps43
      go_wp2_with (go_at_call 35; refine (RSize_any _ _ _ _).mono ?_; rintro e w1 ⟨rfl, hb⟩; obtain ⟨hc, hf⟩ := bcell hb)
      go_ret2
      exact ⟨ret_si rfl rfl, by ((repeat (first | (with_reducible exact Bnil _) | (with_reducible assumption) | (with_reducible refine Bset ?_ ?_ _) | (with_reducible refine Bnew ?_ _) | (with_reducible refine Bdrew ?_) | (with_reducible refine Bthen ?_ (by assumption)))); all_goals (simp; try omega))⟩
    · by_cases k4 : p < 4
      · rw [gWhere_super h0 k2 k4]
        go_enter Try.func43, Try.ntmps43
        go_wp2_with (go_at_call 35; refine (RSize_any _ _ _ _).mono ?_; rintro e w1 ⟨rfl, hb⟩; obtain ⟨hc, hf⟩ := bcell hb)
        go_ret2
        exact ⟨ret_si rfl rfl, by ((repeat (first | (with_reducible exact Bnil _) | (with_reducible assumption) | (with_reducible refine Bset ?_ ?_ _) | (with_reducible refine Bnew ?_ _) | (with_reducible refine Bdrew ?_) | (with_reducible refine Bthen ?_ (by assumption)))); all_goals (simp; try omega))⟩
      · by_cases kl : p < 4 + l
        · rw [gWhere_log h0 k2 k4 kl]
          go_enter Try.func43, Try.ntmps43
          go_wp2_with (go_at_call 35; refine (RSize_any _ _ _ _).mono ?_; rintro e w1 ⟨rfl, hb⟩; obtain ⟨hc, hf⟩ := bcell hb)
          go_ret2
          exact ⟨ret_si rfl rfl, by ((repeat (first | (with_reducible exact Bnil _) | (with_reducible assumption) | (with_reducible refine Bset ?_ ?_ _) | (with_reducible refine Bnew ?_ _) | (with_reducible refine Bdrew ?_) | (with_reducible refine Bthen ?_ (by assumption)))); all_goals (simp; try omega))⟩
        · rw [gWhere_area h0 k2 k4 kl]
          go_enter Try.func43, Try.ntmps43
          go_wp2_with (go_at_call 35; refine (RSize_any _ _ _ _).mono ?_; rintro e w1 ⟨rfl, hb⟩; obtain ⟨hc, hf⟩ := bcell hb)
          have hz : w.heap.size < w1.heap.size := by have := hb.size; simp at this; omega
          have e1 : IntKind.i64.wrap (p - 4) = p - 4 := IntWalk.i64_in _ (by omega)
          have e2 : IntKind.i64.wrap (p - 4 - l) = p - 4 - l := IntWalk.i64_in _ (by omega)
          refine wp_region_below (by kernel_rfl) (by kernel_rfl) ?_
          repeat (quiet_step (fail))
          refine wpQuiet_nil ?_
          rintro _ ⟨x, rfl⟩
          clear e1 e2
          go_wp2
          go_ret2
          exact ⟨ret_si rfl rfl, x.then (by ((repeat (first | (with_reducible exact Bnil _) | (with_reducible assumption) | (with_reducible refine Bset ?_ ?_ _) | (with_reducible refine Bnew ?_ _) | (with_reducible refine Bdrew ?_) | (with_reducible refine Bthen ?_ (by assumption)))); all_goals (simp; try omega)))⟩

set_option maxHeartbeats 1000000 in
theorem Where_any (a d l p : Int) (w : World) (_hp : -9223372036854775808 ≤ p) :
    Calls Try.prog 42 #[.agg #[.int .i64 a, .int .i64 d, .int .i64 l], .int .i64 p] w fun e w' => e = .returned (sayWhere a d l p) ∧ Below w.heap.size w w' := by
  have b1 := gSize_bd a d l
  unfold sayWhere
  by_cases h0 : p < 0 ∨ gSize a d l ≤ p
  · rw [gWhere_no h0]
    by_cases h1 : p < 0
    all_goals
      go_enter Try.func42, Try.ntmps42
      go_wp2
      go_step3
      go_wp2_with (go_at_call 34; refine (Size_any _ _ _ _).mono ?_; rintro e w1 ⟨rfl, hb⟩; obtain ⟨hc, hf⟩ := bcell hb)
      try rw [Exit.noGoto_ret]
      go_ret2
      exact ⟨ret_si rfl rfl, by ((repeat (first | (with_reducible exact Bnil _) | (with_reducible assumption) | (with_reducible refine Bset ?_ ?_ _) | (with_reducible refine Bnew ?_ _) | (with_reducible refine Bdrew ?_) | (with_reducible refine Bthen ?_ (by assumption)))); all_goals (simp; try omega))⟩
  · have hr : gRight a d l = true := by
      cases h : gRight a d l with
      | true => rfl
      | false => have := gSize_no h; omega
    have b2 := gPages_bd a d l
    have hz := gSize_yes hr
    obtain ⟨r2, r4, r7, r3, r5, r6⟩ := gRight_iff.1 hr
    have h1 : ¬ p < 0 := by omega
    have h2 : ¬ gSize a d l ≤ p := by omega
    have h3 : p < 4 + l + 2 * gPages a d l := by omega
    clear hz
    by_cases k2 : p < 2
    · rw [gWhere_root h0 k2]
      go_enter Try.func42, Try.ntmps42
      go_wp2
      go_step3
      go_wp2_with (go_at_call 34; refine (Size_any _ _ _ _).mono ?_; rintro e w1 ⟨rfl, hb⟩; obtain ⟨hc, hf⟩ := bcell hb)
      go_step3
      go_wp2_with (go_at_call 130; refine (parts_any _ _ _ _).mono ?_; rintro e w2 ⟨rfl, hb2⟩)
      have hs2 := hb2.size
      have hs1 := hb.size
      have i0 := part0 l (2 * gPages a d l)
      have i1 := part1 l (2 * gPages a d l)
      have i2 := part2 l (2 * gPages a d l)
      have i3 := part3 l (2 * gPages a d l)
      refine wp_loop_rounds 5 ?_
      iterate 1 (rw [rounds_succ]; go_wp2_with fail)
      try rw [Exit.noGoto_ret]
      go_ret2
      exact ⟨ret_si rfl (by omega), by ((repeat (first | (with_reducible exact Bnil _) | (with_reducible assumption) | (with_reducible refine Bset ?_ ?_ _) | (with_reducible refine Bnew ?_ _) | (with_reducible refine Bdrew ?_) | (with_reducible refine Bthen ?_ (by assumption)))); all_goals (simp; try omega))⟩
    · by_cases k4 : p < 4
      · rw [gWhere_super h0 k2 k4]
        go_enter Try.func42, Try.ntmps42
        go_wp2
        go_step3
        go_wp2_with (go_at_call 34; refine (Size_any _ _ _ _).mono ?_; rintro e w1 ⟨rfl, hb⟩; obtain ⟨hc, hf⟩ := bcell hb)
        go_step3
        go_wp2_with (go_at_call 130; refine (parts_any _ _ _ _).mono ?_; rintro e w2 ⟨rfl, hb2⟩)
        have hs2 := hb2.size
        have hs1 := hb.size
        have i0 := part0 l (2 * gPages a d l)
        have i1 := part1 l (2 * gPages a d l)
        have i2 := part2 l (2 * gPages a d l)
        have i3 := part3 l (2 * gPages a d l)
        refine wp_loop_rounds 5 ?_
        iterate 2 (rw [rounds_succ]; go_wp2_with fail)
        try rw [Exit.noGoto_ret]
        go_ret2
        exact ⟨ret_si rfl (by omega), by ((repeat (first | (with_reducible exact Bnil _) | (with_reducible assumption) | (with_reducible refine Bset ?_ ?_ _) | (with_reducible refine Bnew ?_ _) | (with_reducible refine Bdrew ?_) | (with_reducible refine Bthen ?_ (by assumption)))); all_goals (simp; try omega))⟩
      · by_cases kl : p < 4 + l
        · rw [gWhere_log h0 k2 k4 kl]
          go_enter Try.func42, Try.ntmps42
          go_wp2
          go_step3
          go_wp2_with (go_at_call 34; refine (Size_any _ _ _ _).mono ?_; rintro e w1 ⟨rfl, hb⟩; obtain ⟨hc, hf⟩ := bcell hb)
          go_step3
          go_wp2_with (go_at_call 130; refine (parts_any _ _ _ _).mono ?_; rintro e w2 ⟨rfl, hb2⟩)
          have hs2 := hb2.size
          have hs1 := hb.size
          have i0 := part0 l (2 * gPages a d l)
          have i1 := part1 l (2 * gPages a d l)
          have i2 := part2 l (2 * gPages a d l)
          have i3 := part3 l (2 * gPages a d l)
          refine wp_loop_rounds 5 ?_
          iterate 3 (rw [rounds_succ]; go_wp2_with fail)
          try rw [Exit.noGoto_ret]
          go_ret2
          exact ⟨ret_si rfl (by omega), by ((repeat (first | (with_reducible exact Bnil _) | (with_reducible assumption) | (with_reducible refine Bset ?_ ?_ _) | (with_reducible refine Bnew ?_ _) | (with_reducible refine Bdrew ?_) | (with_reducible refine Bthen ?_ (by assumption)))); all_goals (simp; try omega))⟩
        · rw [gWhere_area h0 k2 k4 kl]
          go_enter Try.func42, Try.ntmps42
          go_wp2
          go_step3
          go_wp2_with (go_at_call 34; refine (Size_any _ _ _ _).mono ?_; rintro e w1 ⟨rfl, hb⟩; obtain ⟨hc, hf⟩ := bcell hb)
          go_step3
          go_wp2_with (go_at_call 130; refine (parts_any _ _ _ _).mono ?_; rintro e w2 ⟨rfl, hb2⟩)
          have hs2 := hb2.size
          have hs1 := hb.size
          have i0 := part0 l (2 * gPages a d l)
          have i1 := part1 l (2 * gPages a d l)
          have i2 := part2 l (2 * gPages a d l)
          have i3 := part3 l (2 * gPages a d l)
          refine wp_loop_rounds 5 ?_
          iterate 4 (rw [rounds_succ]; go_wp2_with fail)
          try rw [Exit.noGoto_ret]
          go_ret2
          exact ⟨ret_si rfl (by omega), by ((repeat (first | (with_reducible exact Bnil _) | (with_reducible assumption) | (with_reducible refine Bset ?_ ?_ _) | (with_reducible refine Bnew ?_ _) | (with_reducible refine Bdrew ?_) | (with_reducible refine Bthen ?_ (by assumption)))); all_goals (simp; try omega))⟩

end Go.Proofs.Ytdjndeleafhglaa
