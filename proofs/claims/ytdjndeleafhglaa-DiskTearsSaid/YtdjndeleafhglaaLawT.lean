/-
  The walk of the law DiskTears.
-/
import Derived.Test.YtdjndeleafhglaaLawE
namespace Go.Proofs.Ytdjndeleafhglaa
open Go.RowKit

set_option maxRecDepth 100000 in
set_option maxHeartbeats 1000000 in
theorem DiskTears_walk (a b : UInt8) (at_ : Int) (A : Option Addr) (n c : Nat) (ks : List Int) (w : World) (hks : IntsAt w A n ks) (hA : 0 < n → ∀ g o, A = some ⟨g, o, none⟩ → g < w.heap.size) :
    Calls Try.prog 6 #[.int .u8 (a.toNat : Int), .int .u8 (b.toNat : Int), .int .i64 at_, .slice A n c] w fun e w' => e = .returned (.bool true) ∧ Below w.heap.size w w' := by
  by_cases hn : 20 < n
  · have hnb : (20 : Int) < (n : Int) := by omega
    go_enter Try.func6, Try.ntmps6
    go_wp2_with fail
    refine (alive19_any _).mono ?_
    rintro e w1 ⟨rfl, hb1⟩
    go_wp2_with fail
    go_ret
    exact ⟨rfl, hb1⟩
  · have hnb : ¬ (20 : Int) < (n : Int) := by omega
    obtain ⟨m, hm⟩ : ∃ m : Nat, m = (at_ % 513).toNat := ⟨_, rfl⟩
    have hme : at_ % 513 = (m : Int) := by omega
    have hmb : m ≤ 512 := by omega
    have hsub : IntKind.i64.wrap (512 - (m : Int)) = ((512 - m : Nat) : Int) := (IntWalk.i64_in _ (by omega)).trans (by omega)
    have Hm := Lib.hid hm; clear hm
    have Hme := Lib.hid hme; clear hme
    have Hsub := Lib.hid hsub; clear hsub
    have Hks := Lib.hid hks; clear hks
    have HA := Lib.hid hA; clear hA
    go_enter Try.func6, Try.ntmps6
    go_wp2_with fail
    refine (New_yes 1 w (by decide) (by decide)).mono ?_
    rintro e w1 ⟨rfl, hd1, hb1⟩
    have Hd1 := Lib.hid hd1; clear hd1
    go_wp2_with fail
    refine (full_any 512 a w1 (by decide)).mono ?_
    rintro e w2 ⟨rfl, hk2, hb2⟩
    obtain ⟨bk, pv, av, H, h1⟩ := Hd1.out
    have hl1 := h1.ltS _ (.inr rfl)
    have hrl : (List.replicate 512 a).length = 512 := List.length_replicate
    have hrlb : (List.replicate 512 b).length = 512 := List.length_replicate
    obtain ⟨LA, hLA⟩ : ∃ LA, LA = List.replicate 512 a := ⟨_, rfl⟩
    obtain ⟨LB, hLB⟩ : ∃ LB, LB = List.replicate 512 b := ⟨_, rfl⟩
    rw [← hLA] at hk2 hrl
    rw [← hLB] at hrlb
    have HLA := Lib.hid hLA; clear hLA
    have HLB := Lib.hid hLB; clear hLB
    have hr2 : w2.rangeAt w1.heap.size 0 (bytesV LA) := fun j v hv => by
      rw [Nat.zero_add, cell_of_row _ _ _ _ _ _ hk2]; simpa using hv
    have h2 := h1.below hb2
    have hp := Put_yes 0 w1.heap.size 0 512 LA h2 (by decide) hrl hr2 (by decide)
    have e2 : keepD (newD 1) 0 LA = ⟨1, fun q => if q = 0 then LA else zeros, [], [(0, LA)], -1, 0, false⟩ := rfl
    rw [e2] at hp
    have Hp := Lib.hid hp
    clear e2 hp h1 hk2 hr2
    have hb2' : Below w.heap.size w w2 := Bthen hb1 hb2
    have hz2 := hb2'.size
    have hz12 := hb2.size
    go_wp2_with fail
    refine Hp.out.mono ?_
    rintro e w3 ⟨rfl, S3, av3, H3, h3, hf3, hS3⟩
    have hL3 : ∀ k, S3 k → w.heap.size ≤ k := fun k hk => by rcases hS3 k hk with (h | h) | h <;> omega
    have hb3 : Below w.heap.size w w3 := hb2'.trans (hf3.low (fun k hk => by rcases hk with h | h <;> omega) hz2)
    have hz3 := hb3.size
    have H3' := Lib.hid h3
    clear hf3 hS3 Hp h2 h3
    go_wp2_with fail
    refine (full_any 512 b w3 (by decide)).mono ?_
    rintro e w4 ⟨rfl, hk4, hb4⟩
    rw [← HLB.out] at hk4
    have hr4 : w4.rangeAt w3.heap.size 0 (bytesV LB) := fun j v hv => by
      rw [Nat.zero_add, cell_of_row _ _ _ _ _ _ hk4]; simpa using hv
    have h4 := H3'.out.below hb4
    have hw := Write_yes 0 w3.heap.size 0 512 LB h4 rfl (by simp) hrlb hr4 (fun hs => by have := H3'.out.ltS _ hs; omega) (by simp) (by simp)
    have e3 : burnD { (⟨1, fun q => if q = 0 then LA else zeros, [], [(0, LA)], -1, 0, false⟩ : DS) with pend := [] ++ [(0, LB)] } = (0, ⟨1, fun q => if q = 0 then LA else zeros, [(0, LB)], [(0, LA)], -1, 1, false⟩) := rfl
    simp only [e3] at hw
    have Hw := Lib.hid hw
    clear e3 hw hr4 h4 hk4
    have hb4' : Below w.heap.size w w4 := Bthen hb3 hb4
    have hz4 := hb4'.size
    go_wp2_with fail
    refine Hw.out.mono ?_
    rintro e w5 ⟨rfl, S5, pv5, h5, hf5, hS5⟩
    have hL5 : ∀ k, S5 k → w.heap.size ≤ k := fun k hk => by
      rcases hS5 k hk with h | h
      · exact hL3 k h
      · omega
    have hb5 : Below w.heap.size w w5 := hb4'.trans (hf5.low hL3 hz4)
    have hz5 := hb5.size
    have hks5 : IntsAt w5 A n ks := Hks.out.keep0 fun hn g o hg => hb5.block g (HA.out hn g o hg)
    have hre := Restart_any A n c 0 at_ ks h5 hks5 (fun hn g o hg => ⟨fun hs => by have := hL5 g hs; have := HA.out hn g o hg; omega, by have := HA.out hn g o hg; omega⟩) (by omega) (by simp)
    obtain ⟨X, hX⟩ : ∃ X, X = LB.take m ++ LA.drop m := ⟨_, rfl⟩
    have e6 : restD ⟨1, fun q => if q = 0 then LA else zeros, [(0, LB)], [(0, LA)], -1, 1, false⟩ ks 0 at_ = ⟨1, fun q => if q = 0 then X else (if q = 0 then LA else zeros), [], [(0, LA), (0, X)], -1, 1, false⟩ := by
      rw [hX, Hm.out]; rfl
    rw [e6] at hre
    have HX := Lib.hid hX; clear hX
    have Hre := Lib.hid hre
    clear e6 hre h5 hks5 hf5 hS5
    go_wp2_with fail
    refine Hre.out.mono ?_
    rintro e w6 ⟨rfl, S6, pv6, av6, H6, h6, hf6, hS6⟩
    have hb6 : Below w.heap.size w w6 := hb5.trans (hf6.low hL5 hz5)
    have hz6 := hb6.size
    have H6' := Lib.hid h6
    clear hf6 hS6 Hre h6 Hw
    go_wp2_with fail
    refine (Mod_any at_ 513 w6 (by decide) (by decide)).mono ?_
    rintro e w7 ⟨rfl, rfl⟩
    rw [Hme.out]
    go_wp2_with fail
    refine (History_any H6'.out).mono ?_
    rintro e w8 ⟨v8, HH, rfl, hsay, hmap, hb8⟩
    obtain ⟨x0, ⟨p1, b1, g1, cap1⟩, rfl, hx1⟩ : ∃ x0 x1 : Nat × List UInt8 × Nat × Nat, HH = [x0, x1] ∧ x1.2.1 = X := by
      match HH, hmap with
      | [x0, x1], h => exact ⟨x0, x1, rfl, by simp at h; exact h.2.2.symm⟩
      | [], h => simp at h
      | [_], h => simp at h
      | _ :: _ :: _ :: _, h => simp at h
    obtain rfl : b1 = X := hx1
    obtain ⟨gh, caph, hv8⟩ := own_succ hsay.row
    obtain rfl : v8 = .slice (some ⟨gh, 0, none⟩) 2 caph := hv8
    have hch : w8.cell? ⟨gh, 3, none⟩ = some (.slice (some ⟨g1, 0, none⟩) 512 cap1) := by
      rw [hsay.row.cellAt 3 (by decide)]; rfl
    have hown1 := hsay.own (p1, b1, g1, cap1) (by simp)
    have hB1 : BytesAt w8 (some ⟨g1, 0, none⟩) 512 b1 := by
      obtain ⟨A1, c1, he, hb⟩ := BytesAt.of_own hown1
      simp only [Value.slice.injEq] at he
      obtain ⟨rfl, _, _⟩ := he
      exact hb
    have hghl := World.block_lt_of_cell? w8 _ hch
    have h8 := H6'.out.below hb8
    have hb8' : Below w.heap.size w w8 := Bthen hb6 hb8
    have hsub := Hsub.out
    have HB1 := Lib.hid hB1
    have H8 := Lib.hid h8
    clear hsay hmap hown1 hB1 h8
    go_wp2_with fail
    refine wp_region_in (BelowW w8) [(0, true), (2, true), (3, true), (5, true), (6, true), (7, true), (1, false), (4, false), (8, false), (9, false), (10, false), (11, true), (12, true), (13, true), (14, true), (15, true), (16, true), (17, true), (18, true), (19, true), (20, true), (21, true), (22, false), (23, false), (24, true), (25, true), (26, false), (27, true), (28, true)] (by kernel_rfl) (by kernel_rfl) (fun _ _ _ _ _ h => h) (inB_drew w8) (fun hne => ?_)
    have hcw : ∀ x : InS (BelowW w8), x.w.cell? ⟨gh, 3, none⟩ = some (.slice (some ⟨g1, 0, none⟩) 512 cap1) := fun x => (inB_cell x hghl).trans hch
    simp only [permOps, List.map_cons, List.map_nil, List.getD_cons_zero, List.getD_cons_succ]
    (iterate 6 ((with_reducible refine wpPerm_F ?_); intro K hK; go_simp; refine hK _ _ ?_; clear hK K))
    (with_reducible refine wpPerm_E rfl ?_); intro K hK
    go_wp2_with fail
    have hWd := inB_drew w8
    refine (Kept_yes 0 (H8.out.below hWd) (by simp)).mono ?_
    rintro e wa ⟨rfl, hka, hba⟩
    have hWa : Below w8.heap.size w8 wa := hWd.trans (hba.mono hWd.size)
    (refine hK _ _ ?_; clear hK K)
    refine ⟨inB_more hWa, ?_⟩
    (with_reducible refine wpPerm_E rfl ?_); intro K hK
    go_wp2_with fail
    refine (full_any m b wa (by omega)).mono ?_
    rintro e wb ⟨rfl, hkb, hbb⟩
    have hWb : Below w8.heap.size w8 wb := hWa.trans (hbb.mono hWa.size)
    (refine hK _ _ ?_; clear hK K)
    refine ⟨inB_more hWb, ?_⟩
    (with_reducible refine wpPerm_E rfl ?_); intro K hK
    go_wp2_with fail
    refine (full_any (512 - m) a wb (by omega)).mono ?_
    rintro e wc ⟨rfl, hkc, hbc⟩
    have hWc : Below w8.heap.size w8 wc := hWb.trans (hbc.mono hWb.size)
    (refine hK _ _ ?_; clear hK K)
    refine ⟨inB_more hWc, ?_⟩
    (with_reducible refine wpPerm_E rfl ?_); intro K hK
    go_wp2_with fail
    have zb := blk_lt hkb
    have za := blk_lt hka
    have hBb : BytesAt wc (some ⟨wa.heap.size, 0, none⟩) m (List.replicate m b) := BytesAt.of_block m List.length_replicate ((hbc.block _ zb).trans hkb)
    have hBc : BytesAt wc (some ⟨wb.heap.size, 0, none⟩) (512 - m) (List.replicate (512 - m) a) := BytesAt.of_block (512 - m) List.length_replicate hkc
    refine (Join_any _ _ _ _ _ _ _ _ _ _ wc hBb hBc (by omega) (by omega)).mono ?_
    rintro e wd ⟨vj, rfl, hownj, hbd⟩
    rw [show m + (512 - m) = 512 by omega] at hownj
    obtain ⟨Aj, capj, rfl, hBj⟩ := BytesAt.of_own hownj
    have hWd2 : Below w8.heap.size w8 wd := hWc.trans (hbd.mono hWc.size)
    (refine hK _ _ ?_; clear hK K)
    refine ⟨inB_more hWd2, ?_⟩
    have hka' : wa.heap[w8.heap.size]? = some (.cells (bytesV b1).toArray 175 (0, 0)) := hka
    have hbl1 : b1.length = 512 := H6'.out.klen 0 (by simp)
    have hzwa := hba.size
    have hzwb := hbb.size
    have hzwc := hbc.size
    have hBk : BytesAt wd (some ⟨w8.heap.size, 0, none⟩) 512 b1 := BytesAt.of_block 512 hbl1 ((hbd.block _ (by have : w8.heap.size < wa.heap.size := za; omega)).trans ((hbc.block _ (by have : w8.heap.size < wa.heap.size := za; omega)).trans ((hbb.block _ za).trans hka')))
    have hsa := Same_any (some ⟨w8.heap.size, 0, none⟩) Aj 512 512 512 capj b1 (List.replicate m b ++ List.replicate (512 - m) a) wd hBk hBj (by decide)
    have hdec : decide (b1 = List.replicate m b ++ List.replicate (512 - m) a) = true := by
      rw [HX.out, HLB.out, HLA.out, List.take_replicate, List.drop_replicate, Nat.min_eq_left hmb]
      simp
    rw [hdec] at hsa
    have Hsa := Lib.hid hsa
    clear hsa hdec hka hka' hkb hkc hBb hBc hownj hBj hBk
    (with_reducible refine wpPerm_E rfl ?_); intro K hK
    go_wp2_with fail
    refine Hsa.out.mono ?_
    rintro e we ⟨rfl, hbe⟩
    have hWe : Below w8.heap.size w8 we := hWd2.trans (hbe.mono hWd2.size)
    (refine hK _ _ ?_; clear hK K)
    refine ⟨inB_more hWe, ?_⟩
    (repeat ((with_reducible refine wpPerm_F ?_); intro K hK; go_simp; refine hK _ _ ?_; clear hK K))
    (with_reducible refine wpPerm_G ?_); intro K K' hK hK'; clear hK'
    go_simp
    refine (Kept_yes 0 (H8.out.below hWe) (by simp)).mono ?_
    rintro e wf ⟨rfl, hkf, hbf⟩
    have hWf : Below w8.heap.size w8 wf := hWe.trans (hbf.mono hWe.size)
    refine hK _ _ ?_
    clear hK K K'
    refine ⟨inB_more hWf, ?_⟩
    have hkf' : wf.heap[we.heap.size]? = some (.cells (bytesV b1).toArray 175 (0, 0)) := hkf
    have hB1f : BytesAt wf (some ⟨g1, 0, none⟩) 512 b1 := HB1.out.below hWf
    have hBkf : BytesAt wf (some ⟨we.heap.size, 0, none⟩) 512 b1 := BytesAt.of_block 512 hbl1 hkf'
    have hsb := Same_any (some ⟨g1, 0, none⟩) (some ⟨we.heap.size, 0, none⟩) 512 512 cap1 512 b1 b1 wf hB1f hBkf (by decide)
    have hdec2 : decide (b1 = b1) = true := by simp
    rw [hdec2] at hsb
    have Hsb := Lib.hid hsb
    clear hsb hdec2 hkf hkf' hB1f hBkf
    (with_reducible refine wpPerm_G ?_); intro K K' hK hK'; clear hK'
    go_simp
    refine Hsb.out.mono ?_
    rintro e wg ⟨rfl, hbg⟩
    have hWg : Below w8.heap.size w8 wg := hWf.trans (hbg.mono hWf.size)
    refine hK _ _ ?_
    clear hK K K'
    refine ⟨inB_more hWg, ?_⟩
    (iterate 2 ((with_reducible refine wpPerm_F ?_); intro K hK; go_simp; refine hK _ _ ?_; clear hK K))
    (with_reducible refine wpPerm_G ?_); intro K K' hK hK'; clear hK'
    go_simp
    refine (alive19_any wg).mono ?_
    rintro e wh ⟨rfl, hbh⟩
    have hWh : Below w8.heap.size w8 wh := hWg.trans (hbh.mono hWg.size)
    refine hK _ _ ?_
    clear hK K K'
    refine ⟨inB_more hWh, ?_⟩
    (iterate 2 ((with_reducible refine wpPerm_F ?_); intro K hK; go_simp; refine hK _ _ ?_; clear hK K))
    have hbfin : Below w.heap.size w wh := hb8'.trans (hWh.mono hb8'.size)
    go_wp2_with fail
    apply_assumption
    go_wp2_with fail
    go_ret
    exact ⟨rfl, hbfin⟩

end Go.Proofs.Ytdjndeleafhglaa
