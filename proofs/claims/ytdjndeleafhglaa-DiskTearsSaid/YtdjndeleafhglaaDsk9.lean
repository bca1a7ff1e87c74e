/-
  slices.Clone of bytes.
-/
import Derived.Test.YtdjndeleafhglaaDsk6
namespace Go.Proofs.Ytdjndeleafhglaa
open Go.RowKit

theorem info_byte : (Try.prog.info? 5).map (fun i => (i.zero, i.size, i.bytes)) = some (some (.int .u8 0), 1, 1) := by kernel_rfl

set_option maxRecDepth 100000 in
set_option maxHeartbeats 1000000 in
theorem Clone_any (g o n c : Nat) (V : List Value) (w : World) (hV : V.length = n) (hn : n ≤ 1000000) (h1 : ∀ v ∈ V, v.oneCell' = true) (hr : w.rangeAt g o V) :
    Calls Try.prog 135 #[.slice (some ⟨g, o, none⟩) n c] w fun e w' => ∃ v', e = .returned v' ∧ w'.ownsRow w.heap.size 5 1 v' n V ∧ Below w.heap.size w w' := by
  obtain ⟨i0, hi, hz0, hz1, hz2⟩ := info_parts info_byte
  have q22 : ∀ (w : World) (a : Option Addr) (n c n' c' : Nat), (binOp .eql 41 (.slice a n c) (.slice none n' c')).run Try.prog w = .ok (.bool a.isNone) w := fun w a n c n' c' => Lib.run_eql_slice_nil w _ _ a n c n' c' Try.underlying41
  have A := Lib.hid hr
  clear hr
  have H1 := Lib.hid h1; clear h1
  have HV := Lib.hid hV; clear hV
  go_enter Try.func135, Try.ntmps135
  go_wp2_with (at_builtin; refine wpList_append_own _ rfl _ _ 41 rfl w.heap.size 5 i0 (.int .u8 0) 1 1 Try.underlying41 hi hz0 hz1 hz2 rfl (by decide) _ _ _ rfl (World.ownsRow_made w #[] 0 (Nat.le_refl _) (Nat.zero_le _) rfl) ⟨g, o, none⟩ n c V rfl ?qc1 ?qc2 ?qc3 ?qc4 ?qc5 ?qc6 ?_)
  case qc1 => rw [HV.out]; omega
  case qc2 =>
    intro j u hj
    refine Lib.cell?_alloc_some _ ?_
    rw [Addr.add_mid]
    exact A.out j u hj
  case qc3 => exact H1.out
  case qc4 => unfold maxLen; omega
  case qc5 => omega
  case qc6 => simp
  intro v' w1 hown hgrow hnil
  go_wp2
  go_ret
  refine ⟨v', rfl, by simpa using hown, ?_⟩
  exact ((Below.refl _ w).alloc (Nat.le_refl _) _).grown hgrow (by simp) (by intro k hk; simp [Value.ownBlock] at hk; omega)


theorem own_mono {w : World} {base base' : Nat} {e : TypeId} {size : Nat} {v : Value} {n : Nat} {xs : List Value} (h : w.ownsRow base e size v n xs) (hb : base' ≤ base) : w.ownsRow base' e size v n xs := by
  refine ⟨h.1, ?_⟩
  rcases h.2 with hn | ⟨g, cap, cur, hv, hb0, rest⟩
  · exact .inl hn
  · exact .inr ⟨g, cap, cur, hv, Nat.le_trans hb hb0, rest⟩
/-- Two rows of unlike elements lie apart. -/
theorem own_apart {w : World} {b1 b2 : Nat} {e1 e2 : TypeId} {s1 s2 : Nat} {v1 v2 : Value} {n1 n2 : Nat} {x1 x2 : List Value} (h1 : w.ownsRow b1 e1 s1 v1 n1 x1) (h2 : w.ownsRow b2 e2 s2 v2 n2 x2) (hne : e1 ≠ e2) : v1.ownBlock = none ∨ v1.ownBlock ≠ v2.ownBlock := by
  rcases h1.2 with ⟨hn, _⟩ | ⟨g, cap, cur, hv, _, hg, _⟩
  · exact .inl (by rw [hn]; rfl)
  · right
    rw [hv]
    exact own_ne h2 hg hne

/-- A history in memory: each a place and a slice of bytes of its own. -/
def sayCells (l : List (Nat × List UInt8 × Nat × Nat)) : List Value := l.flatMap fun p => [.int .i64 (p.1 : Int), .slice (some ⟨p.2.2.1, 0, none⟩) 512 p.2.2.2]
theorem sayCells_length (l : List (Nat × List UInt8 × Nat × Nat)) : (sayCells l).length = l.length * 2 := by
  induction l with
  | nil => rfl
  | cons x l ih => simp only [sayCells, List.flatMap_cons, List.length_append, List.length_cons, List.length_nil] at ih ⊢; omega
structure SaysAt (w : World) (base : Nat) (v : Value) (l : List (Nat × List UInt8 × Nat × Nat)) : Prop where
  row : w.ownsRow base 51 2 v l.length (sayCells l)
  own : ∀ x ∈ l, w.ownsRow base 5 1 (.slice (some ⟨x.2.2.1, 0, none⟩) 512 x.2.2.2) 512 (bytesV x.2.1)

theorem histCells_get (l : List (Nat × List UInt8 × Nat)) : ∀ (k : Nat) (x : Nat × List UInt8 × Nat) (j : Nat), l[k]? = some x → j < 2 → (histCells l)[k * 2 + j]? = [Value.int .i64 (x.1 : Int), .slice (some ⟨x.2.2, 0, none⟩) 512 512][j]? := by
  induction l with
  | nil => intro k x j h; simp at h
  | cons y l ih =>
    intro k x j h hj
    have e : histCells (y :: l) = [.int .i64 (y.1 : Int), .slice (some ⟨y.2.2, 0, none⟩) 512 512] ++ histCells l := by simp [histCells]
    rw [e]
    cases k with
    | zero =>
      obtain rfl : y = x := by simpa using h
      rw [List.getElem?_append_left (by simp; omega)]
      simp
    | succ k =>
      rw [List.getElem?_append_right (by simp; omega)]
      simp only [List.length_cons, List.length_nil]
      rw [show (k + 1) * 2 + j - (0 + 1 + 1) = k * 2 + j by omega]
      exact ih k x j (by simpa using h) hj

section
variable {w : World} {d : Nat} {D : DS} {S : Nat → Prop} {bk : Nat} {pv av : Value} {H : List (Nat × List UInt8 × Nat)}

theorem History_nil (w : World) : Calls Try.prog 53 #[.pointer none] w fun e w' => e = .returned (.slice none 0 0) ∧ w = w' := by
  go_enter Try.func53, Try.ntmps53
  go_wp2_with fail
  go_ret
  exact ⟨rfl, rfl⟩

set_option maxRecDepth 100000 in
set_option maxHeartbeats 2000000 in
theorem History_any (h : DiskP w d D S bk pv av H) :
    Calls Try.prog 53 #[.pointer (some ⟨d, 0, none⟩)] w fun e w' => ∃ v HH, e = .returned v ∧ SaysAt w' w.heap.size v HH ∧ D.hist = HH.map (fun x => (x.1, x.2.1)) ∧ Below w.heap.size w w' := by
  obtain ⟨c0, c1, c2, c3, c4, c5, hf⟩ := h.cells
  obtain ⟨A, cap, rfl, hA⟩ : ∃ A cap, av = .slice A D.hist.length cap ∧ (0 < D.hist.length → ∃ g, A = some ⟨g, 0, none⟩) := by
    rcases h.hist.2 with ⟨rfl, h0⟩ | ⟨g, cap, _, rfl, _⟩
    · exact ⟨none, 0, by rw [h0], fun h => by omega⟩
    · exact ⟨_, cap, rfl, fun _ => ⟨g, rfl⟩⟩
  have hlenH : D.hist.length = H.length := by rw [h.hsay, List.length_map]
  have hsmall := h.small.2.1
  obtain ⟨i1, hi1, hi1z, hi1s, hi1b⟩ := info_parts info_write
  have Hh := Lib.hid h; clear h
  have HA := Lib.hid hA; clear hA
  have Hi1 := Lib.hid hi1; clear hi1
  go_enter Try.func53, Try.ntmps53
  go_wp2_with fail
  go_loopw [2, 12] (fun v i wr => ∃ k : Nat, k ≤ D.hist.length ∧ i = .int .i64 k ∧ ∃ HH, SaysAt wr w.heap.size v HH ∧ HH.map (fun x => (x.1, x.2.1)) = D.hist.take k ∧ Below w.heap.size w wr) (fun _ i _ => D.hist.length - (intOf i).toNat)
  case atStart => exact ⟨0, by omega, rfl, [], ⟨World.ownsRow_nil _ _ _ _, fun x hx => by simp at hx⟩, rfl, by ((repeat (first | (with_reducible exact Bnil _) | (with_reducible assumption) | (with_reducible refine Bset ?_ ?_ _) | (with_reducible refine Bnew ?_ _) | (with_reducible refine Bdrew ?_) | (with_reducible refine Bthen ?_ (by assumption)))); all_goals (simp; try omega))⟩
  case round =>
    obtain ⟨k, hk, rfl, HH, hsay, hmap, hbel⟩ := hrel
    by_cases hlt : k < D.hist.length
    · obtain ⟨g, rfl⟩ := HA.out (by omega)
      obtain ⟨⟨q, b, nb⟩, hqb⟩ : ∃ x, H[k]? = some x := ⟨_, List.getElem?_eq_getElem (by omega)⟩
      have hmem := List.mem_of_getElem? hqb
      obtain ⟨hblk, _, hbl⟩ := Hh.out.hblk _ hmem
      simp only at hblk hbl
      have hq0 : w.cell? ⟨g, k * 2, none⟩ = some (.int .i64 (q : Int)) := by
        have := Hh.out.hist.cellAt (k * 2 + 0) (by omega)
        rw [histCells_get H k _ 0 hqb (by omega)] at this
        simpa using this
      have hq1 : w.cell? ⟨g, k * 2 + 1, none⟩ = some (.slice (some ⟨nb, 0, none⟩) 512 512) := by
        have := Hh.out.hist.cellAt (k * 2 + 1) (by omega)
        rw [histCells_get H k _ 1 hqb (by omega)] at this
        simpa using this
      have hgl : g < w.heap.size := World.block_lt_of_cell? w _ hq0
      have r0 := (hbel.cell (p := ⟨g, k * 2, none⟩) hgl).trans hq0
      have r1 := (hbel.cell (p := ⟨g, k * 2 + 1, none⟩) hgl).trans hq1
      have hkn : (k : Int) < (D.hist.length : Int) := by omega
      have Hqb := Lib.hid hqb; clear hqb
      have Hblk := Lib.hid hblk; clear hblk
      have hzr := hbel.size
      clear hq0 hq1 hmem
      go_wp2_with fail
      have hx0 : (wr.alloc (.cells #[.int .i64 (q : Int), .slice (some ⟨nb, 0, none⟩) 512 512] 51)).cell? ⟨wr.heap.size, 0, none⟩ = some (.int .i64 (q : Int)) := by
        rw [cell_of_row _ _ _ _ _ _ (heap_alloc_new wr _)]; rfl
      have hx1 : (wr.alloc (.cells #[.int .i64 (q : Int), .slice (some ⟨nb, 0, none⟩) 512 512] 51)).cell? ⟨wr.heap.size, 1, none⟩ = some (.slice (some ⟨nb, 0, none⟩) 512 512) := by
        rw [cell_of_row _ _ _ _ _ _ (heap_alloc_new wr _)]; rfl
      have hz1 : wr.heap.size < (wr.alloc (.cells #[.int .i64 (q : Int), .slice (some ⟨nb, 0, none⟩) 512 512] 51)).heap.size := by simp
      have hb1 : Below wr.heap.size wr (wr.alloc (.cells #[.int .i64 (q : Int), .slice (some ⟨nb, 0, none⟩) 512 512] 51)) := Bbox _ _
      have hnbl := blk_lt Hblk.out
      have hnb : (wr.alloc (.cells #[.int .i64 (q : Int), .slice (some ⟨nb, 0, none⟩) 512 512] 51)).rangeAt nb 0 (bytesV b) := fun j v hv => by
        rw [cell_of_row _ _ _ _ _ _ (((Bthen hbel hb1).block nb hnbl).trans Hblk.out)]
        simpa using hv
      have Hnb := Lib.hid hnb; clear hnb
      generalize (wr.alloc (.cells #[.int .i64 (q : Int), .slice (some ⟨nb, 0, none⟩) 512 512] 51)) = W1 at hx0 hx1 hz1 hb1 Hnb ⊢
      refine wp_region_in (fun w' => w'.cell? ⟨wr.heap.size, 0, none⟩ = some (.int .i64 (q : Int)) ∧ w'.cell? ⟨wr.heap.size, 1, none⟩ = some (.slice (some ⟨nb, 0, none⟩) 512 512)) [(0, true), (1, true), (2, true), (3, true), (4, true), (5, false), (6, true), (7, false), (8, false), (9, true)] (by kernel_rfl) (by kernel_rfl) (fun _ _ _ _ _ h => h) ⟨hx0, hx1⟩ (fun hne => ?_)
      have hs0 : ∀ x : InS (fun w' => w'.cell? ⟨wr.heap.size, 0, none⟩ = some (.int .i64 (q : Int)) ∧ w'.cell? ⟨wr.heap.size, 1, none⟩ = some (.slice (some ⟨nb, 0, none⟩) 512 512)), x.w.cell? ⟨wr.heap.size, 0, none⟩ = some (.int .i64 (q : Int)) := fun x => x.h.1
      have hs1 : ∀ x : InS (fun w' => w'.cell? ⟨wr.heap.size, 0, none⟩ = some (.int .i64 (q : Int)) ∧ w'.cell? ⟨wr.heap.size, 1, none⟩ = some (.slice (some ⟨nb, 0, none⟩) 512 512)), x.w.cell? ⟨wr.heap.size, 1, none⟩ = some (.slice (some ⟨nb, 0, none⟩) 512 512) := fun x => x.h.2
      simp only [permOps, List.map_cons, List.map_nil, List.getD_cons_zero, List.getD_cons_succ]
      (iterate 5 ((with_reducible refine wpPerm_F ?_); intro K hK; go_simp; refine hK _ _ ?_; clear hK K))
      (with_reducible refine wpPerm_E rfl ?_); intro K hK
      go_wp2_with fail
      refine (Clone_any nb 0 512 512 (bytesV b) W1.drew (by rw [bytesV_length, hbl]) (by decide) (bytesV_one b) (fun j v hv => Hnb.out j v hv)).mono ?_
      rintro e w2 ⟨v2, rfl, hown2, hb2⟩
      obtain ⟨g2, cap2, hv2⟩ := own_succ hown2
      obtain rfl : v2 = .slice (some ⟨g2, 0, none⟩) 512 cap2 := hv2
      have hb2' : Below W1.heap.size W1 w2 := Bthen (Bdrew (Bnil W1)) hb2
      have hz2 := hb2'.size
      have hx0b := (hb2'.cell (p := ⟨wr.heap.size, 0, none⟩) hz1).trans hx0
      have hx1b := (hb2'.cell (p := ⟨wr.heap.size, 1, none⟩) hz1).trans hx1
      (refine hK _ _ ?_; clear hK K)
      refine ⟨⟨⟨_, hx0b, hx1b⟩, rfl⟩, ?_⟩
      (iterate 1 ((with_reducible refine wpPerm_F ?_); intro K hK; go_simp; refine hK _ _ ?_; clear hK K))
      (with_reducible refine wpPerm_E rfl ?_); intro K hK
      go_wp2_with fail
      have hb3 : Below wr.heap.size wr w2 := Bthen hb1 hb2'
      have hbel2 : Below w.heap.size w w2 := Bthen hbel hb3
      have hx0c : (w2.alloc (.cells #[.int .i64 (q : Int), .slice (some ⟨g2, 0, none⟩) 512 cap2] 51)).cell? ⟨wr.heap.size, 0, none⟩ = some (.int .i64 (q : Int)) := ((Bbox w2 _).cell (p := ⟨wr.heap.size, 0, none⟩) (show wr.heap.size < w2.heap.size by omega)).trans hx0b
      have hx1c : (w2.alloc (.cells #[.int .i64 (q : Int), .slice (some ⟨g2, 0, none⟩) 512 cap2] 51)).cell? ⟨wr.heap.size, 1, none⟩ = some (.slice (some ⟨nb, 0, none⟩) 512 512) := ((Bbox w2 _).cell (p := ⟨wr.heap.size, 1, none⟩) (show wr.heap.size < w2.heap.size by omega)).trans hx1b
      have hown0 : (w2.alloc (.cells #[.int .i64 (q : Int), .slice (some ⟨g2, 0, none⟩) 512 cap2] 51)).ownsRow w.heap.size 51 2 u2 HH.length (sayCells HH) := (own_below hsay.row hb3).alloc _
      have hownsA : ∀ x ∈ HH, (w2.alloc (.cells #[.int .i64 (q : Int), .slice (some ⟨g2, 0, none⟩) 512 cap2] 51)).ownsRow w.heap.size 5 1 (.slice (some ⟨x.2.2.1, 0, none⟩) 512 x.2.2.2) 512 (bytesV x.2.1) := fun x hx => (own_below (hsay.own x hx) hb3).alloc _
      have hown2A : (w2.alloc (.cells #[.int .i64 (q : Int), .slice (some ⟨g2, 0, none⟩) 512 cap2] 51)).ownsRow w.heap.size 5 1 (.slice (some ⟨g2, 0, none⟩) 512 cap2) 512 (bytesV b) := (own_mono hown2 (by have := hb1.size; show w.heap.size ≤ W1.heap.size; omega)).alloc _
      have hHl : HH.length = k := by have := congrArg List.length hmap; simpa [Nat.min_eq_left (Nat.le_of_lt hlt)] using this
      have Hx0c := Lib.hid hx0c
      have Hx1c := Lib.hid hx1c
      refine ⟨⟨⟨_, hx0c, hx1c⟩, rfl⟩, ?_⟩
      clear hx0b hx1b hx0c hx1c
      (with_reducible refine wpPerm_E rfl ?_); intro K hK
      have hi1 := Hi1.out
      refine wp_append_at _ _ 45 rfl w.heap.size 51 i1 _ 2 32 Try.underlying45 hi1 hi1z hi1s hi1b rfl (by decide) _ _ _ rfl hown0 ⟨w2.heap.size, 0, none⟩ 1 1 [.int .i64 (q : Int), .slice (some ⟨g2, 0, none⟩) 512 cap2] rfl rfl
        (World.news_of_block (heap_alloc_new w2 _)) (by simp [Value.oneCell']) (by unfold maxLen; omega) (by omega) (by have := hbel2.size; simp; omega) ?_
      intro v3 w3 hown3 hgrow3 hat3
      (refine hK _ _ ?_; clear hK K)
      have hrl := (hown0.lt)
      have hwne : some wr.heap.size ≠ u2.ownBlock := fun e => by
        have := (hsay.row.lt _ e.symm).2
        omega
      have hwl : wr.heap.size < (w2.alloc (.cells #[.int .i64 (q : Int), .slice (some ⟨g2, 0, none⟩) 512 cap2] 51)).heap.size := by simp; omega
      refine ⟨⟨⟨_, (hgrow3.cell (a := ⟨wr.heap.size, 0, none⟩) Hx0c.out hwne), (hgrow3.cell (a := ⟨wr.heap.size, 1, none⟩) Hx1c.out hwne)⟩, rfl⟩, ?_⟩
      (iterate 1 ((with_reducible refine wpPerm_F ?_); intro K hK; go_simp; refine hK _ _ ?_; clear hK K))
      have hsay3 : SaysAt w3 w.heap.size v3 (HH ++ [(q, b, g2, cap2)]) := by
        refine ⟨?_, fun x hx => ?_⟩
        · rw [List.length_append, sayCells, List.flatMap_append]
          simpa [sayCells] using hown3
        · rcases List.mem_append.1 hx with hx | hx
          · exact (hownsA x hx).kept hgrow3 (own_apart (hownsA x hx) hown0 (by decide))
          · obtain rfl : x = (q, b, g2, cap2) := by simpa using hx
            exact hown2A.kept hgrow3 (own_apart hown2A hown0 (by decide))
      have hmap3 : (HH ++ [(q, b, g2, cap2)]).map (fun x => (x.1, x.2.1)) = D.hist.take (k + 1) := by
        have : D.hist[k]? = some (q, b) := by rw [Hh.out.hsay, List.getElem?_map, Hqb.out]; rfl
        rw [List.map_append, hmap, List.take_add_one, this]
        rfl
      have hbel3 : Below w.heap.size w w3 := (Bnew hbel2 _).grown hgrow3 (by have := hbel2.size; simp; omega) (fun j hj => (hown0.lt j hj).1)
      clear hown3 hgrow3 hat3 hown0 hownsA hown2A hsay hmap hs0 hs1
      go_wp2_with fail
      apply_assumption
      go_wp2_with fail
      go_roundw
      case rel => exact ⟨k + 1, by omega, by go_num, _, hsay3, hmap3, hbel3⟩
      case measure => simp [intOf]; omega
    · have hkl : D.hist.take k = D.hist := List.take_of_length_le (by omega)
      rw [hkl] at hmap
      have Hmap := Lib.hid hmap; clear hmap
      have hkn : ¬ (k : Int) < (D.hist.length : Int) := by omega
      go_wp2_with fail
      go_ret
      exact ⟨_, rfl, HH, hsay, Hmap.out.symm, hbel⟩

end
end Go.Proofs.Ytdjndeleafhglaa
