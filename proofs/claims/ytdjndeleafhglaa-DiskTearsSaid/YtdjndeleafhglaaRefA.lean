/-
  The document's own small words: Mod, Same, Join; and the law's full.
-/
import Derived.Test.YtdjndeleafhglaaDsk9
namespace Go.Proofs.Ytdjndeleafhglaa
open Go.RowKit

theorem Mod_any (i n : Int) (w : World) (h1 : 1 ≤ n) (h2 : n ≤ 1000000) :
    Calls Try.prog 52 #[.int .i64 i, .int .i64 n] w fun e w' => e = .returned (.int .i64 (i % n)) ∧ w = w' := by
  have hn0 : ¬ n = 0 := by omega
  have hn1 : ¬ n < 1 := by omega
  have b1 := Int.tmod_lt_of_pos i (show (0 : Int) < n by omega)
  have b2 : -n < i.tmod n := Int.lt_tmod_of_pos i (show (0 : Int) < n by omega)
  have h3 : i.tmod n = if 0 ≤ i ∨ n ∣ i then i % n else i % n - n := by
    rw [Int.tmod_eq_emod]
    split <;> simp <;> omega
  have h4 := Int.emod_nonneg i hn0
  have h5 := Int.emod_lt_of_pos i (show (0 : Int) < n by omega)
  obtain ⟨r, hr⟩ : ∃ r, r = i.tmod n := ⟨_, rfl⟩
  have hr' := hr.symm
  rw [← hr] at b1 b2 h3
  by_cases h0 : r < 0
  · have e1 : IntKind.i64.wrap (r + n) = r + n := IntWalk.i64_in _ (by omega)
    have e2 : r + n = i % n := by split at h3 <;> omega
    clear h3 hr
    go_enter Try.func52, Try.ntmps52
    go_wp2
    go_ret
    exact ⟨by first | rfl | exact ret_int e2, rfl⟩
  · have e2 : r = i % n := by split at h3 <;> omega
    clear h3 hr
    go_enter Try.func52, Try.ntmps52
    go_wp2
    go_ret
    exact ⟨by first | rfl | exact ret_int e2, rfl⟩

theorem BytesAt.of_own {w : World} {base n : Nat} {v : Value} {l : List UInt8} (h : w.ownsRow base 5 1 v n (bytesV l)) : ∃ A cap, v = .slice A n cap ∧ BytesAt w A n l := by
  have hl : l.length = n := by have := h.1; rw [bytesV_length] at this; omega
  rcases h.2 with ⟨rfl, rfl⟩ | ⟨g, cap, cur, rfl, _, hg, hc, _, hs, ht⟩
  · exact ⟨none, 0, rfl, hl, fun h => by omega⟩
  · refine ⟨_, cap, rfl, hl, fun _ => ⟨g, 0, rfl, fun j v hv => ?_⟩⟩
    have hj : j < n := by have := (List.getElem?_eq_some_iff.1 hv).1; rw [bytesV_length] at this; omega
    rw [Nat.zero_add, h.cellAt j (by omega), hv]
theorem BytesAt.of_block {w : World} {g : Nat} {t : TypeId} {l : List UInt8} (n : Nat) (hn : l.length = n) (h : w.heap[g]? = some (.cells (bytesV l).toArray t (0, 0))) : BytesAt w (some ⟨g, 0, none⟩) n l :=
  ⟨hn, fun _ => ⟨g, 0, rfl, fun j v hv => by rw [Nat.zero_add, cell_of_row _ _ _ _ _ _ h]; simpa using hv⟩⟩

set_option maxRecDepth 100000 in
set_option maxHeartbeats 1000000 in
theorem Join_any (ga oa n ca gb ob m cb : Nat) (la lb : List UInt8) (w : World) (ha : BytesAt w (some ⟨ga, oa, none⟩) n la) (hb : BytesAt w (some ⟨gb, ob, none⟩) m lb) (hn : n ≤ 1000000) (hm : m ≤ 1000000) :
    Calls Try.prog 56 #[.slice (some ⟨ga, oa, none⟩) n ca, .slice (some ⟨gb, ob, none⟩) m cb] w fun e w' => ∃ v', e = .returned v' ∧ w'.ownsRow w.heap.size 5 1 v' (n + m) (bytesV (la ++ lb)) ∧ Below w.heap.size w w' := by
  obtain ⟨i0, hi, hz0, hz1, hz2⟩ := info_parts info_byte
  have ra : ∀ j u, (bytesV la)[j]? = some u → w.cell? ((⟨ga, oa, none⟩ : Addr).add j) = some u := fun j u hj => by
    have hjl := (List.getElem?_eq_some_iff.1 hj).1
    rw [bytesV_length, ha.len] at hjl
    obtain ⟨g, o, he, hr⟩ := ha.at_ (by omega)
    cases he
    rw [Addr.add_mid]; exact hr j u hj
  have rb : ∀ j u, (bytesV lb)[j]? = some u → w.cell? ((⟨gb, ob, none⟩ : Addr).add j) = some u := fun j u hj => by
    have hjl := (List.getElem?_eq_some_iff.1 hj).1
    rw [bytesV_length, hb.len] at hjl
    obtain ⟨g, o, he, hr⟩ := hb.at_ (by omega)
    cases he
    rw [Addr.add_mid]; exact hr j u hj
  have hla := ha.len
  have hlb := hb.len
  have Ra := Lib.hid ra; clear ra
  have Rb := Lib.hid rb; clear rb
  have Hla := Lib.hid hla; clear hla
  have Hlb := Lib.hid hlb; clear hlb
  clear ha hb
  go_enter Try.func56, Try.ntmps56
  go_wp2_with (at_builtin; refine wpList_append_own _ rfl _ _ 41 rfl w.heap.size 5 i0 (.int .u8 0) 1 1 Try.underlying41 hi hz0 hz1 hz2 rfl (by decide) _ _ _ rfl (World.ownsRow_nil w _ _ _) ⟨ga, oa, none⟩ n ca (bytesV la) rfl ?qc1 ?qc2 ?qc3 ?qc4 ?qc5 ?qc6 ?_)
  case qc1 => rw [bytesV_length, Hla.out]; omega
  case qc2 => exact Ra.out
  case qc3 => exact bytesV_one la
  case qc4 => unfold maxLen; omega
  case qc5 => omega
  case qc6 => exact Nat.le_refl _
  intro v1 w1 hown1 hgrow1 hnil1
  have hown1' : w1.ownsRow w.heap.size 5 1 v1 n (bytesV la) := by simpa using hown1
  have hb1 : Below w.heap.size w w1 := (Bnil w).grown hgrow1 (Nat.le_refl _) (fun k hk => by simp [Value.ownBlock] at hk)
  have hz1' := hb1.size
  have rb1 : ∀ j u, (bytesV lb)[j]? = some u → w1.cell? ((⟨gb, ob, none⟩ : Addr).add j) = some u := fun j u hj => by
    have h0 := Rb.out j u hj
    rw [Addr.add_mid] at h0 ⊢
    exact (hb1.cell (p := ⟨gb, ob + j, none⟩) (World.block_lt_of_cell? w _ h0)).trans h0
  have Rb1 := Lib.hid rb1; clear rb1
  clear hown1 hgrow1 hnil1
  go_wp2_with (at_builtin; refine wpList_append_own _ rfl _ _ 41 rfl w.heap.size 5 i0 (.int .u8 0) 1 1 Try.underlying41 hi hz0 hz1 hz2 rfl (by decide) _ _ _ rfl hown1' ⟨gb, ob, none⟩ m cb (bytesV lb) rfl ?qd1 ?qd2 ?qd3 ?qd4 ?qd5 ?qd6 ?_)
  case qd1 => rw [bytesV_length, Hlb.out]; omega
  case qd2 => exact Rb1.out
  case qd3 => exact bytesV_one lb
  case qd4 => unfold maxLen; omega
  case qd5 => omega
  case qd6 => exact hz1'
  intro v2 w2 hown2 hgrow2 hnil2
  go_wp2
  go_ret
  refine ⟨v2, rfl, by rw [show bytesV (la ++ lb) = bytesV la ++ bytesV lb by simp [bytesV]]; exact hown2, ?_⟩
  exact hb1.grown hgrow2 hz1' (fun k hk => (hown1'.lt k hk).1)

set_option maxRecDepth 100000 in
set_option maxHeartbeats 1000000 in
theorem Same_any (A B : Option Addr) (n m ca cb : Nat) (la lb : List UInt8) (w : World) (ha : BytesAt w A n la) (hb : BytesAt w B m lb) (hn : n ≤ 1000000) :
    Calls Try.prog 54 #[.slice A n ca, .slice B m cb] w fun e w' => e = .returned (.bool (decide (la = lb))) ∧ Below w.heap.size w w' := by
  have hla := ha.len
  have hlb := hb.len
  by_cases hnm : n = m
  · subst hnm
    have Ha := Lib.hid ha; clear ha
    have Hb := Lib.hid hb; clear hb
    have Hla := Lib.hid hla; clear hla
    have Hlb := Lib.hid hlb; clear hlb
    go_enter Try.func54, Try.ntmps54
    go_wp2_with fail
    go_loopw [5] (fun i wr => ∃ k : Nat, k ≤ n ∧ i = .int .i64 k ∧ (∀ j, j < k → la[j]? = lb[j]?) ∧ Below w.heap.size w wr) (fun i _ => n - (intOf i).toNat)
    case atStart => exact ⟨0, by omega, rfl, (fun j hj => by omega), by ((repeat (first | (with_reducible exact Bnil _) | (with_reducible assumption) | (with_reducible refine Bset ?_ ?_ _) | (with_reducible refine Bnew ?_ _) | (with_reducible refine Bdrew ?_) | (with_reducible refine Bthen ?_ (by assumption)))); all_goals (simp; try omega))⟩
    case round =>
      obtain ⟨k, hk, rfl, hsame, hbel⟩ := hrel
      have Hsame := Lib.hid hsame; clear hsame
      by_cases hlt : k < n
      · obtain ⟨ga, oa, rfl, hra⟩ := Ha.out.at_ (by omega)
        obtain ⟨gb, ob, rfl, hrb⟩ := Hb.out.at_ (by omega)
        obtain ⟨x, hx⟩ : ∃ x, la[k]? = some x := ⟨_, List.getElem?_eq_getElem (by rw [Hla.out]; exact hlt)⟩
        obtain ⟨y, hy⟩ : ∃ y, lb[k]? = some y := ⟨_, List.getElem?_eq_getElem (by rw [Hlb.out]; exact hlt)⟩
        have hxa := hra k (.int .u8 (x.toNat : Int)) (by simp [bytesV, hx])
        have hyb := hrb k (.int .u8 (y.toNat : Int)) (by simp [bytesV, hy])
        have hgal := World.block_lt_of_cell? w _ hxa
        have hgbl := World.block_lt_of_cell? w _ hyb
        have ra := (hbel.cell (p := ⟨ga, oa + k, none⟩) hgal).trans hxa
        have rb := (hbel.cell (p := ⟨gb, ob + k, none⟩) hgbl).trans hyb
        have hzr := hbel.size
        have hgal2 : ga < wr.heap.size := Nat.lt_of_lt_of_le hgal hzr
        have hgbl2 : gb < wr.heap.size := Nat.lt_of_lt_of_le hgbl hzr
        have hkn : (k : Int) < (n : Int) := by omega
        have hcw := @BW.cell
        have Hx := Lib.hid hx; clear hx
        have Hy := Lib.hid hy; clear hy
        clear hra hrb hxa hyb
        by_cases hxy : x = y
        · subst hxy
          go_wp2_with fail
          refine wp_region_below (by kernel_rfl) (by kernel_rfl) ?_
          iterate 9 (quiet_step (fail))
          refine wpQuiet_nil ?_
          rintro _ ⟨z, rfl⟩
          go_wp2_with fail
          have hrel6 : (∀ j, j < k + 1 → la[j]? = lb[j]?) ∧ Below w.heap.size w z.w := ⟨fun j hj => by
            by_cases h : j < k
            · exact Hsame.out j h
            · obtain rfl : j = k := by omega
              exact Hx.out.trans Hy.out.symm, z.then hbel⟩
          go_roundw
          case rel => exact ⟨k + 1, by omega, by go_num, hrel6⟩
          case measure => simp [intOf]; omega
        · have hne : ¬ (x.toNat = y.toNat) := fun h => hxy (UInt8.toNat_inj.1 h)
          have hne2 : ¬ ((x.toNat : Int) = (y.toNat : Int)) := by omega
          go_wp2_with fail
          refine wp_region_below (by kernel_rfl) (by kernel_rfl) ?_
          iterate 9 (quiet_step (fail))
          refine wpQuiet_nil ?_
          rintro _ ⟨z, rfl⟩
          go_wp2_with fail
          have he2 : decide (la = lb) = false := by
            simp only [decide_eq_false_iff_not]
            intro e
            apply hxy
            have h1 := Hx.out
            rw [e, Hy.out] at h1
            exact (Option.some.inj h1).symm
          go_ret
          exact ⟨ret_bool he2.symm, z.then hbel⟩
      · have hkn : ¬ (k : Int) < (n : Int) := by omega
        have he : la = lb := List.ext_getElem? fun j => by
          by_cases hj : j < k
          · exact Hsame.out j hj
          · rw [List.getElem?_eq_none (by rw [Hla.out]; omega), List.getElem?_eq_none (by rw [Hlb.out]; omega)]
        have he2 : decide (la = lb) = true := by simpa using he
        have He2 := Lib.hid he2; clear he2 he
        go_wp2_with fail
        go_ret
        exact ⟨ret_bool He2.out.symm, hbel⟩
  · have he : decide (la = lb) = false := by
      simp only [decide_eq_false_iff_not]
      intro e
      rw [e] at hla
      omega
    have He := Lib.hid he; clear he
    have hne : ¬ (n : Int) = (m : Int) := by omega
    clear ha hb hla hlb
    go_enter Try.func54, Try.ntmps54
    go_wp2_with fail
    go_ret
    exact ⟨ret_bool He.out.symm, by ((repeat (first | (with_reducible exact Bnil _) | (with_reducible assumption) | (with_reducible refine Bset ?_ ?_ _) | (with_reducible refine Bnew ?_ _) | (with_reducible refine Bdrew ?_) | (with_reducible refine Bthen ?_ (by assumption)))); all_goals (simp; try omega))⟩

end Go.Proofs.Ytdjndeleafhglaa
