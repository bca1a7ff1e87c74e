/-
  The walk of 'GeomApart': the row of all places, and that each place of the disk is in it.
-/
import Derived.Test.YtdjndeleafhglaaGeoL
namespace Go.Proofs.Ytdjndeleafhglaa
open Go.RowKit

set_option maxHeartbeats 400000 in
theorem Has_any (xs : List Int) (g o cap : Nat) (p : Int) (w : World) (hc : ∀ i, i < xs.length → w.cell? ⟨g, o + i, none⟩ = some (.int .i64 (xs[i]?.getD 0))) (hm : xs.length ≤ 1000000000) :
    Calls Try.prog 41 #[.slice (some ⟨g, o, none⟩) xs.length cap, .int .i64 p] w fun e w' => e = .returned (.bool (decide (p ∈ xs))) ∧ w = w' := by
  go_enter Try.func41, Try.ntmps41
  go_wp2
  go_loop [5] (fun i => ∃ k : Nat, k ≤ xs.length ∧ i = .int .i64 k ∧ ∀ j, j < k → xs[j]?.getD 0 ≠ p) (fun i => xs.length - (intOf i).toNat)
  case atStart => exact ⟨0, by omega, rfl, fun j hj => by omega⟩
  case round =>
    obtain ⟨k, hk, rfl, hno⟩ := hrel
    have Hno := Lib.hid hno; clear hno
    by_cases hlt : k < xs.length
    · have hcell := hc k hlt
      obtain ⟨v, hv⟩ : ∃ v, xs[k]?.getD 0 = v := ⟨_, rfl⟩
      rw [hv] at hcell
      have Hv := Lib.hid hv; clear hv
      have Hc := Lib.hid hc; clear hc
      by_cases he : v = p
      · have He := Lib.hid he
        have hb : (v == p) = true := by simpa using he
        clear he
        go_wp2
        go_ret
        refine ⟨ret_bool ?_, rfl⟩
        symm
        rw [decide_eq_true_eq, ← He.out, ← Hv.out]
        rw [List.getElem?_eq_getElem hlt]
        exact List.getElem_mem hlt
      · have He := Lib.hid he
        have hb : (v == p) = false := by simpa using he
        clear he
        go_wp2
        go_round
        case rel => exact ⟨k + 1, by omega, by go_num, fun j hj => by
          by_cases hjk : j = k
          · rw [hjk, Hv.out]; exact He.out
          · exact Hno.out j (by omega)⟩
        case measure => simp [intOf]; omega
    · go_wp2
      go_ret
      refine ⟨ret_bool ?_, rfl⟩
      symm
      rw [decide_eq_false_iff_not]
      intro hmem
      obtain ⟨j, hj, hje⟩ := List.mem_iff_getElem.1 hmem
      refine Hno.out j (by omega) ?_
      rw [List.getElem?_eq_getElem hj]
      exact hje

/-- The places, as the statement collects them: the roots and supers, k of the log, k pages of both areas. -/
def gFour : List Int := [0, 1, 2, 3]
def gLogs (k : Nat) : List Int := (List.range k).map fun i : Nat => 4 + (i : Int)
def gAreas (a d l : Int) (k : Nat) : List Int := (List.range k).flatMap fun i : Nat => [4 + l + (i : Int), 4 + l + gPages a d l + (i : Int)]
def gAll (a d l : Int) : List Int := gFour ++ gLogs l.toNat ++ gAreas a d l (gPages a d l).toNat

theorem gLogs_succ (k : Nat) : gLogs (k + 1) = gLogs k ++ [4 + (k : Int)] := by simp [gLogs, List.range_succ]
theorem gAreas_succ (a d l : Int) (k : Nat) : gAreas a d l (k + 1) = gAreas a d l k ++ [4 + l + (k : Int), 4 + l + gPages a d l + (k : Int)] := by simp [gAreas, List.range_succ]
theorem gAreas_length (a d l : Int) (k : Nat) : (gAreas a d l k).length = 2 * k := by
  induction k with
  | zero => rfl
  | succ k ih => rw [gAreas_succ, List.length_append, ih]; simp; omega
theorem gAll_length {a d l : Int} (hr : gRight a d l = true) : ((gAll a d l).length : Int) = gSize a d l := by
  obtain ⟨h2, h4, h1, h3, h5, h6⟩ := gRight_iff.1 hr
  have := gPages_bd a d l
  rw [gSize_yes hr]
  simp [gAll, gFour, gLogs, gAreas_length]
  omega
theorem gAll_mem {a d l : Int} (hr : gRight a d l = true) (p : Int) (h0 : 0 ≤ p) (hp : p < gSize a d l) : p ∈ gAll a d l := by
  obtain ⟨h2, h4, h1, h3, h5, h6⟩ := gRight_iff.1 hr
  have := gPages_bd a d l
  rw [gSize_yes hr] at hp
  simp only [gAll, gFour, gLogs, gAreas, List.mem_append, List.mem_cons, List.mem_map, List.mem_flatMap, List.mem_range, List.not_mem_nil, or_false]
  by_cases c1 : p < 4
  · left; left; omega
  · by_cases c2 : p < 4 + l
    · left; right; exact ⟨(p - 4).toNat, by omega, by omega⟩
    · right
      by_cases c3 : p < 4 + l + gPages a d l
      · exact ⟨(p - 4 - l).toNat, by omega, .inl (by omega)⟩
      · exact ⟨(p - 4 - l - gPages a d l).toNat, by omega, .inr (by omega)⟩

theorem Bgrow {w W w' : World} {row : Option Nat} (h : Below w.heap.size w W) (hg : W.grownBy w' row) (hr : ∀ k, row = some k → w.heap.size ≤ k) : Below w.heap.size w w' := h.grown hg h.size hr

theorem own_ints {w : World} {base : Nat} {e : TypeId} {k : IntKind} {g n cap : Nat} {xs : List Int} (h : w.ownsRow base e 1 (.slice (some ⟨g, 0, none⟩) n cap) n (xs.map (Value.int k))) :
    ∀ i, i < xs.length → w.cell? ⟨g, 0 + i, none⟩ = some (.int k (xs[i]?.getD 0)) := by
  intro i hi
  have := h.cells (g := g) rfl i (.int k (xs[i]?.getD 0)) (by simp [hi])
  have hadd : (⟨g, 0, none⟩ : Addr).add i = ⟨g, 0 + i, none⟩ := by unfold Addr.add; split <;> simp_all
  rwa [hadd] at this

theorem info_int : (Try.prog.info? 3).map (fun i => (i.zero, i.size, i.bytes)) = some (some (.int .i64 0), 1, 8) := by kernel_rfl

abbrev ints (l : List Int) : List Value := l.map (Value.int .i64)

set_option maxHeartbeats 1000000 in
theorem GeomApart_no (a d l : Int) (w : World) (hr : gRight a d l = false) :
    Calls Try.prog 4 #[.agg #[.int .i64 a, .int .i64 d, .int .i64 l]] w fun e w' => e = .returned (.bool true) ∧ Below w.heap.size w w' := by
  have hs := gSize_no hr
  go_enter Try.func4, Try.ntmps4
  go_wp2_with fail
  refine (Right_any _ _ _ _).mono ?_; rintro e w1 ⟨rfl, hb1⟩; obtain ⟨hc1, hf1⟩ := bcell hb1
  go_wp2_with fail
  refine (Size_any _ _ _ _).mono ?_; rintro e w2 ⟨rfl, hb2⟩
  go_wp2_with fail
  refine (alive21_any _).mono ?_; rintro e w3 ⟨rfl, hb3⟩
  go_wp2
  go_ret
  exact ⟨rfl, by ((repeat (first | (with_reducible exact Bnil _) | (with_reducible assumption) | (with_reducible refine Bset ?_ ?_ _) | (with_reducible refine Bnew ?_ _) | (with_reducible refine Bdrew ?_) | (with_reducible refine Bthen ?_ (by assumption)))); all_goals (simp; try omega))⟩

set_option maxRecDepth 100000 in
set_option maxHeartbeats 2000000 in
theorem GeomApart_yes (a d l : Int) (w : World) (hr : gRight a d l = true) :
    Calls Try.prog 4 #[.agg #[.int .i64 a, .int .i64 d, .int .i64 l]] w fun e w' => e = .returned (.bool true) ∧ Below w.heap.size w w' := by
  obtain ⟨i0, hi, hiz, his, hib⟩ := info_parts info_int
  obtain ⟨h2, h4, h1, h3, h5, h6⟩ := gRight_iff.1 hr
  go_enter Try.func4, Try.ntmps4
  go_wp2_with fail
  refine (Right_any _ _ _ _).mono ?_; rintro e w1 ⟨rfl, hb1⟩; obtain ⟨hc1, hf1⟩ := bcell hb1
  go_wp2_with fail
  refine (Root_any 0 _ (by omega) (by omega)).mono ?_; rintro e w2 ⟨rfl, rfl⟩
  go_wp2_with fail
  refine (Root_any 1 _ (by omega) (by omega)).mono ?_; rintro e w2 ⟨rfl, rfl⟩
  go_wp2_with fail
  refine (Super_any 0 _ (by omega) (by omega)).mono ?_; rintro e w2 ⟨rfl, rfl⟩
  go_wp2_with fail
  refine (Super_any 1 _ (by omega) (by omega)).mono ?_; rintro e w2 ⟨rfl, rfl⟩
  go_wp2_with fail
  have z1 : w.heap.size < w1.heap.size := by have := hb1.size; simp at this; omega
  have c0 : w1.cell? ⟨w.heap.size, 0, none⟩ = some (.int .i64 a) := by rw [hc1 _ _ (by simp)]; go_simp
  have c1 : w1.cell? ⟨w.heap.size, 1, none⟩ = some (.int .i64 d) := by rw [hc1 _ _ (by simp)]; go_simp
  have c2 : w1.cell? ⟨w.heap.size, 2, none⟩ = some (.int .i64 l) := by rw [hc1 _ _ (by simp)]; go_simp
  clear hc1 hf1
  have hbl : Below w.heap.size w w1 := Bthen (Bbox _ _) hb1
  clear hb1
  have hown0 : (w1.alloc (.cells #[.int .i64 0, .int .i64 1, .int .i64 2, .int .i64 3] 3)).ownsRow w1.heap.size 3 1 (.slice (some ⟨w1.heap.size, 0, none⟩) 4 4) 4 (ints gFour) :=
    ⟨rfl, .inr ⟨w1.heap.size, 4, _, rfl, Nat.le_refl _, heap_alloc_new _ _, Nat.le_refl _, by decide, rfl, rfl⟩⟩
  go_loopw [3, 4] (fun v i wr => ∃ k : Nat, (k : Int) ≤ l ∧ i = .int .i64 k ∧ wr.ownsRow w1.heap.size 3 1 v (4 + k) (ints (gFour ++ gLogs k)) ∧ Below w1.heap.size w1 wr) (fun _ i _ => (l - intOf i).toNat)
  case atStart => exact ⟨0, by omega, rfl, hown0, Bbox _ _⟩
  case round =>
    obtain ⟨k, hk, rfl, hown, hbel⟩ := hrel
    have q0 := (hbel.cell (p := ⟨w.heap.size, 0, none⟩) z1).trans c0
    have q1 := (hbel.cell (p := ⟨w.heap.size, 1, none⟩) z1).trans c1
    have q2 := (hbel.cell (p := ⟨w.heap.size, 2, none⟩) z1).trans c2
    have hzr := hbel.size
    by_cases hlt : (k : Int) < l
    · go_wp2_with fail
      refine (Log_any _ _ _ _ _).mono ?_; rintro e w2 ⟨rfl, hb2⟩
      have hown2 := own_below hown hb2
      have hz2 := hb2.size
      go_wp2_with (at_builtin; refine wpList_append_own _ rfl _ _ 29 rfl w1.heap.size 3 i0 (.int .i64 0) 1 8 Try.underlying29 hi hiz his hib rfl (by decide) _ _ _ rfl (hown2.alloc _) ⟨w2.heap.size, 0, none⟩ 1 1 [.int .i64 (gLog a d l k)] rfl rfl (cell_one_new _ _ _) (by simp [Value.oneCell']) (by unfold maxLen; omega) (by omega) (by simp; omega) ?_; intro v' w3 hown3 hgrow3 _)
      have hL : gLog a d l k = 4 + (k : Int) := by
        unfold gLog
        rw [if_neg (by simp [hr]), Int.emod_eq_of_lt (by omega) hlt]
      rw [hL] at hown3
      have hown4 : w3.ownsRow w1.heap.size 3 1 v' (4 + (k + 1)) (ints (gFour ++ gLogs (k + 1))) := by
        rw [gLogs_succ, ← Nat.add_assoc]; simpa [ints] using hown3
      have hbel3 : Below w1.heap.size w1 w3 := Bgrow (Bnew (Bthen hbel hb2) _) hgrow3 (fun j hj => (hown.lt j hj).1)
      go_roundw
      case rel => exact ⟨k + 1, by omega, by go_num, hown4, hbel3⟩
      case measure => simp [intOf]; omega
    · have hkl : l.toNat = k := by omega
      have hown1 : wr.ownsRow w1.heap.size 3 1 u3 (4 + k) (ints (gFour ++ gLogs l.toNat)) := by rw [hkl]; exact hown
      clear hown
      go_wp2_with fail
      obtain ⟨wo, rfl⟩ : ∃ wo : World, wo = wr := ⟨_, rfl⟩
      have b1 := gPages_bd a d l
      have hk6 : k ≤ 64 := by omega
      go_loopw [3, 5] (fun v i wr => ∃ m : Nat, (m : Int) ≤ gPages a d l ∧ i = .int .i64 m ∧ wr.ownsRow w1.heap.size 3 1 v (4 + k + 2 * m) (ints (gFour ++ gLogs l.toNat ++ gAreas a d l m)) ∧ Below w1.heap.size w1 wr) (fun _ i _ => (gPages a d l - intOf i).toNat)
      case atStart => exact ⟨0, by omega, rfl, by simpa [gAreas] using hown1, hbel⟩
      case round =>
        clear q0 q1 q2 hzr hbel hown1
        obtain ⟨m, hm, rfl, hown, hbel⟩ := hrel
        have q0 := (hbel.cell (p := ⟨w.heap.size, 0, none⟩) z1).trans c0
        have q1 := (hbel.cell (p := ⟨w.heap.size, 1, none⟩) z1).trans c1
        have q2 := (hbel.cell (p := ⟨w.heap.size, 2, none⟩) z1).trans c2
        have hzr := hbel.size
        go_wp2_with fail
        refine (Pages_any _ _ _ _).mono ?_; rintro e w2 ⟨rfl, hb2⟩
        have hown2 := own_below hown hb2
        have hbel2 := Bthen hbel hb2
        clear hown hbel q0 q1 q2 hzr hb2
        have q0 := (hbel2.cell (p := ⟨w.heap.size, 0, none⟩) z1).trans c0
        have q1 := (hbel2.cell (p := ⟨w.heap.size, 1, none⟩) z1).trans c1
        have q2 := (hbel2.cell (p := ⟨w.heap.size, 2, none⟩) z1).trans c2
        have hzr := hbel2.size
        by_cases hlt : (m : Int) < gPages a d l
        · go_wp2_with fail
          refine wp_region_in (BelowW w1) [(0, true), (1, true), (2, true), (4, true), (5, true), (3, false), (6, false), (7, false), (8, false), (9, true)] (by kernel_rfl) (by kernel_rfl) (fun _ _ _ _ _ h => h) hbel2.drew (fun hne => ?_)
          have hcx := @inB_cell
          simp only [permOps, List.map_cons, List.map_nil, List.getD_cons_zero, List.getD_cons_succ]
          (repeat ((with_reducible refine wpPerm_F ?_); intro K hK; go_simp; refine hK _ _ ?_; clear hK K))
          (with_reducible refine wpPerm_E rfl ?_); intro K hK
          go_wp2_with fail
          refine (Area_any _ _ _ 0 _ _ (by omega) (by omega)).mono ?_; rintro e w3 ⟨rfl, hb3⟩
          (refine hK _ _ ?_; clear hK K)
          refine ⟨inB_step hbel2.drew hb3, ?_⟩
          have hown3 := own_below (World.ownsRow.drew hown2) hb3
          have hbel3 := Bthen (Bdrew hbel2) hb3
          (with_reducible refine wpPerm_E rfl ?_); intro K hK
          go_wp2_with fail
          refine (Area_any _ _ _ 1 _ _ (by omega) (by omega)).mono ?_; rintro e w4 ⟨rfl, hb4⟩
          (refine hK _ _ ?_; clear hK K)
          refine ⟨inB_step hbel3 hb4, ?_⟩
          have hown4 := own_below hown3 hb4
          have hbel4 := Bthen hbel3 hb4
          (with_reducible refine wpPerm_E rfl ?_); intro K hK
          go_wp2_with fail
          have hown5 := hown4.alloc (.cells #[.int .i64 (gArea a d l 0 m), .int .i64 (gArea a d l 1 m)] 3)
          have hbel5 := Bnew hbel4 (.cells #[.int .i64 (gArea a d l 0 m), .int .i64 (gArea a d l 1 m)] 3)
          refine ⟨inB_more hbel5, ?_⟩
          (with_reducible refine wpPerm_E rfl ?_); intro K hK
          refine wp_append_own _ _ _ 29 rfl w1.heap.size 3 i0 (.int .i64 0) 1 8 Try.underlying29 hi hiz his hib rfl (by decide) _ _ _ rfl hown5 ⟨w4.heap.size, 0, none⟩ 2 2 [.int .i64 (gArea a d l 0 m), .int .i64 (gArea a d l 1 m)] rfl rfl
            (World.news_of_block (heap_alloc_new w4 _)) (by simp [Value.oneCell']) (by unfold maxLen; omega) (by omega) hbel5.size ?_
          intro v' w5 hown6 hgrow6 _
          (refine hK _ _ ?_; clear hK K)
          have hbel6 : Below w1.heap.size w1 w5 := Bgrow hbel5 hgrow6 (fun j hj => (hown2.lt j hj).1)
          refine ⟨inB_more hbel6, ?_⟩
          (repeat ((with_reducible refine wpPerm_F ?_); intro K hK; go_simp; refine hK _ _ ?_; clear hK K))
          refine wpPerm_nil ?_
          have ha0 : gArea a d l 0 m = 4 + l + (m : Int) := by unfold gArea; rw [if_neg (by omega)]; omega
          have ha1 : gArea a d l 1 m = 4 + l + gPages a d l + (m : Int) := by unfold gArea; rw [if_neg (by omega)]; omega
          rw [ha0, ha1] at hown6
          have hown7 : w5.ownsRow w1.heap.size 3 1 v' (4 + k + 2 * (m + 1)) (ints (gFour ++ gLogs l.toNat ++ gAreas a d l (m + 1))) := by
            rw [gAreas_succ, show 4 + k + 2 * (m + 1) = 4 + k + 2 * m + 2 by omega]; simpa [ints] using hown6
          clear hcx ha0 ha1
          go_wp2_with fail
          go_roundw
          case rel => exact ⟨m + 1, by omega, by go_num, hown7, hbel6⟩
          case measure => simp [intOf]; omega
        · have hall : ints (gFour ++ gLogs l.toNat ++ gAreas a d l m) = ints (gAll a d l) := by unfold gAll; rw [show (gPages a d l).toNat = m by omega]
          rw [hall] at hown2
          have hlen := gAll_length hr
          have hown3 : w2.ownsRow w1.heap.size 3 1 u3 (gAll a d l).length (ints (gAll a d l)) := by
            have := hown2.1
            rw [List.length_map, Nat.mul_one] at this
            rw [this]; exact hown2
          clear hown2 hall
          obtain ⟨g, cap, rfl, hg1, hg2⟩ := hown3.form (by have := gSize_yes hr; omega)
          have hne : (((gAll a d l).length : Int) != gSize a d l) = false := by rw [hlen]; simp
          have Hlen := Lib.hid hlen; clear hlen
          have hsz := gSize_bd a d l
          have hz2 : w.heap.size < w2.heap.size := by omega
          go_wp2_with fail
          refine (Size_any _ _ _ _).mono ?_; rintro e w3 ⟨rfl, hb3⟩
          have hown4 := own_below hown3 hb3
          have hbel3 := Bthen hbel2 hb3
          clear q0 q1 q2 hzr hb3 hown3 hbel2
          have q0 := (hbel3.cell (p := ⟨w.heap.size, 0, none⟩) z1).trans c0
          have q1 := (hbel3.cell (p := ⟨w.heap.size, 1, none⟩) z1).trans c1
          have q2 := (hbel3.cell (p := ⟨w.heap.size, 2, none⟩) z1).trans c2
          go_wp2_with fail
          refine (Size_any _ _ _ _).mono ?_; rintro e w4 ⟨rfl, hb4⟩
          have hown5 := own_below hown4 hb4
          have hbel4 := Bthen hbel3 hb4
          have hlt1024 : ¬ (1024 : Int) < gSize a d l := by omega
          clear q0 q1 q2
          have hcells := own_ints hown5
          have hgs : (gAll a d l).length ≤ 1000000000 := by have := Hlen.out; omega
          go_wp2_with fail
          have Hcells := Lib.hid hcells; clear hcells
          go_loop [6] (fun i => ∃ p : Nat, p ≤ (gAll a d l).length ∧ i = .int .i64 p) (fun i => (gAll a d l).length - (intOf i).toNat)
          case atStart => exact ⟨0, by omega, rfl⟩
          case round =>
            obtain ⟨p, hp, rfl⟩ := hrel
            by_cases hplt : p < (gAll a d l).length
            · have hmem : decide ((p : Int) ∈ gAll a d l) = true := by
                rw [decide_eq_true_eq]
                exact gAll_mem hr p (by omega) (by rw [← Hlen.out]; omega)
              have Hmem := Lib.hid hmem; clear hmem
              go_wp2_with fail
              refine (Has_any (gAll a d l) g 0 cap p _ Hcells.out hgs).mono ?_; rintro e w5 ⟨rfl, rfl⟩
              rw [Hmem.out]
              go_wp2_with fail
              go_round
              case rel => exact ⟨p + 1, by omega, by go_num⟩
              case measure => simp [intOf]; omega
            · go_wp2_with fail
              refine (alive21_any _).mono ?_; rintro e w5 ⟨rfl, hb5⟩
              go_wp2
              go_ret
              exact ⟨rfl, Bthen hbl (Bthen hbel4 hb5)⟩

theorem GeomApart_walk (a d l : Int) (w : World) :
    Calls Try.prog 4 #[.agg #[.int .i64 a, .int .i64 d, .int .i64 l]] w fun e w' => e = .returned (.bool true) ∧ Below w.heap.size w w' := by
  cases hr : gRight a d l with
  | true => exact GeomApart_yes a d l w hr
  | false => exact GeomApart_no a d l w hr

end Go.Proofs.Ytdjndeleafhglaa
