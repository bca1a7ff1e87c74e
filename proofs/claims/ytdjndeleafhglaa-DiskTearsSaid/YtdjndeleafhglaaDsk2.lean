/-
  The walks of the package disk: bytes come to be kept.
-/
import Derived.Test.YtdjndeleafhglaaDsk1
namespace Go.Proofs.Ytdjndeleafhglaa
open Go.RowKit

/-- Bytes come to be kept. -/
def keepD (D : DS) (p : Nat) (b : List UInt8) : DS := { D with kept := fun q => if q = p then b else D.kept q, hist := D.hist ++ [(p, b)] }

section
variable {w : World} {d : Nat} {D : DS} {S : Nat → Prop} {bk : Nat} {pv av : Value} {H : List (Nat × List UInt8 × Nat)}

theorem info_write : (Try.prog.info? 51).map (fun i => (i.zero, i.size, i.bytes)) = some (some (.agg #[.int .i64 0, .slice none 0 0]), 2, 32) := by kernel_rfl
theorem size_block : (Try.prog.info? 175).map (·.size) = some 512 := by
  obtain ⟨i0, hi, _, his, _⟩ := info_parts info_block
  rw [hi]; simp [his]

set_option maxRecDepth 100000 in
set_option maxHeartbeats 400000 in
theorem keep_any (p : Nat) (b : List UInt8) (h : DiskP w d D S bk pv av H) (hp : p < D.n) (hb : b.length = 512) (hsm : D.pend.length + D.hist.length + 1 ≤ 1000000) :
    Calls Try.prog 132 #[.pointer (some ⟨d, 0, none⟩), .int .i64 (p : Int), .agg (bytesV b).toArray] w fun e w' => e = .returned (.tuple #[]) ∧
      ∃ S' av' H', DiskP w' d (keepD D p b) S' bk pv av' H' ∧ Frame S w w' ∧ ∀ k, S' k → S k ∨ w.heap.size ≤ k := by
  obtain ⟨c0, c1, c2, c3, c4, c5, hf⟩ := h.cells
  have hlen : (bytesV b).length = 512 := by rw [bytesV_length, hb]
  have hone := bytesV_one b
  generalize hV : bytesV b = V at hlen hone
  have HV := Lib.hid hV; clear hV
  have Hlen := Lib.hid hlen; clear hlen
  have Hone := Lib.hid hone; clear hone
  have Hb := Lib.hid hb; clear hb
  have hpn : (p : Int) < (D.n : Int) := by omega
  go_enter Try.func132, Try.ntmps132
  go_wp2
  have hdl := blk_lt h.hdr
  have hnew : (w.alloc (.cells V.toArray 175)).rangeAt w.heap.size 0 V := fun j v hv => by
    rw [Nat.zero_add, cell_of_row _ _ _ _ _ _ (heap_alloc_new w _)]; simpa using hv
  have hszV : (Try.prog.info? 175).map (·.size) = some V.length := by rw [Hlen.out]; exact size_block
  have Hnew := Lib.hid hnew; clear hnew
  have HszV := Lib.hid hszV; clear hszV
  refine wp_region_in (fun w' => w'.cell? ⟨d, 0, none⟩ = some (.slice (some ⟨bk, 0, none⟩) D.n D.n) ∧ w'.rangeAt w.heap.size 0 V) [(0, true), (1, true), (2, true), (3, true), (4, true), (5, true), (6, true), (7, false)] (by kernel_rfl) (by kernel_rfl) (fun _ _ _ _ _ h => h) ⟨by go_simp, by simpa using Hnew.out⟩ (fun hne => ?_)
  have hs0 : ∀ x : InS (fun w' => w'.cell? ⟨d, 0, none⟩ = some (.slice (some ⟨bk, 0, none⟩) D.n D.n) ∧ w'.rangeAt w.heap.size 0 V), x.w.cell? ⟨d, 0, none⟩ = some (.slice (some ⟨bk, 0, none⟩) D.n D.n) := fun x => x.h.1
  simp only [permOps, List.map_cons, List.map_nil, List.getD_cons_zero, List.getD_cons_succ]
  (iterate 5 ((with_reducible refine wpPerm_F ?_); intro K hK; go_simp; refine hK _ _ ?_; clear hK K))
  refine wpPerm_F1 rfl _ (okVal_load 175 _ rfl w.heap.size 0 rfl V _ (fun w' ⟨x, hx⟩ => by rw [hx]; exact x.h.2) Try.underlying175 rfl HszV.out) ?_
  (iterate 1 ((with_reducible refine wpPerm_F ?_); intro K hK; go_simp; refine hK _ _ ?_; clear hK K))
  (with_reducible refine wpPerm_L rfl ?_); intro K hK
  obtain ⟨C, hC, hCs⟩ := h.blk
  have hmul : (p + 1) * 512 ≤ D.n * 512 := Nat.mul_le_mul_right _ hp
  have hth : (w.alloc (.cells V.toArray 175)).drew.there bk (p * 512) V.toArray.size :=
    there_of (C := C) (t := 175) (by rw [show (w.alloc (.cells V.toArray 175)).drew.heap = (w.alloc (.cells V.toArray 175)).heap from rfl, Below.heap_alloc _ _ _ (blk_lt hC)]; exact hC) (by rw [List.size_toArray, Hlen.out, hCs]; omega)
  refine wp_store_mid 175 _ _ rfl bk (p * 512) V.toArray rfl rfl hth HszV.out (all_oneCell_toArray Hone.out) ?_
  (refine hK _ _ ?_; clear hK K)
  have h1 : DiskP (w.alloc (.cells V.toArray 175)).drew d D S bk pv av H := h.below (Bdrew (Bbox _ _))
  have h2 := h1.put p b hp Hb.out
  rw [HV.out] at h2
  have hfr : Frame S w ((w.alloc (.cells V.toArray 175)).drew.setCells bk (p * 512) V) := sets_frame (((Frame.refl S w).alloc _).drew) (.inl h.ownS.2.1) _ _
  have hnb : ((w.alloc (.cells V.toArray 175)).drew.setCells bk (p * 512) V).heap[w.heap.size]? = some (.cells V.toArray 175 (0, 0)) := by
    rw [sets_heap _ _ _ _ _ (by have := blk_lt hC; omega)]; exact heap_alloc_new w _
  have hz2 : ((w.alloc (.cells V.toArray 175)).drew.setCells bk (p * 512) V).heap.size = w.heap.size + 1 := by rw [sets_size]; simp [World.drew]
  have hbkne : w.heap.size ≠ bk := by have := blk_lt hC; omega
  generalize (w.alloc (.cells V.toArray 175)).drew.setCells bk (p * 512) V = W at h2 hfr hnb hz2 ⊢
  clear hth h1 hs0 hC hCs hmul c0 c1 c2 c3 c4 c5 hf hne
  obtain ⟨c0, c1, c2, c3, c4, c5, hf⟩ := h2.cells
  have H2 := Lib.hid h2; clear h2
  have Hnb := Lib.hid hnb; clear hnb
  have Hz := Lib.hid hz2; clear hz2
  go_wp2
  refine wp_region_in (fun w' => w'.cell? ⟨d, 2, none⟩ = some av) [(0, true), (1, true), (2, true), (3, true), (4, true), (5, true), (6, true), (7, true), (8, false), (9, false), (10, true), (11, true), (12, false)] (by kernel_rfl) (by kernel_rfl) (fun _ _ _ _ _ h => h) c2 (fun hne => ?_)
  have hs0 : ∀ x : InS (fun w' => w'.cell? ⟨d, 2, none⟩ = some av), x.w.cell? ⟨d, 2, none⟩ = some av := fun x => x.h
  obtain ⟨i1, hi1, hi1z, hi1s, hi1b⟩ := info_parts info_write
  have hdlt := blk_lt H2.out.hdr
  have hdne : some d ≠ av.ownBlock := own_ne H2.out.hist H2.out.hdr (by decide)
  have hown0 : (W.alloc (.cells #[.int .i64 (p : Int), .slice (some ⟨w.heap.size, 0, none⟩) 512 512] 51)).drew.ownsRow 0 51 2 av D.hist.length (histCells H) := World.ownsRow.drew (H2.out.hist.alloc _)
  have hfr2 := (hfr.alloc (.cells #[.int .i64 (p : Int), .slice (some ⟨w.heap.size, 0, none⟩) 512 512] 51)).drew
  have c2A : (W.alloc (.cells #[.int .i64 (p : Int), .slice (some ⟨w.heap.size, 0, none⟩) 512 512] 51)).drew.cell? ⟨d, 2, none⟩ = some av := by go_simp
  simp only [permOps, List.map_cons, List.map_nil, List.getD_cons_zero, List.getD_cons_succ]
  (repeat ((with_reducible refine wpPerm_F ?_); intro K hK; go_simp; refine hK _ _ ?_; clear hK K))
  (with_reducible refine wpPerm_E rfl ?_); intro K hK
  go_wp2_with fail
  refine ⟨⟨⟨_, c2A⟩, rfl⟩, ?_⟩
  (with_reducible refine wpPerm_E rfl ?_); intro K hK
  refine wp_append_at _ _ 45 rfl 0 51 i1 _ 2 32 Try.underlying45 hi1 hi1z hi1s hi1b rfl (by decide) _ _ _ rfl hown0 ⟨W.heap.size, 0, none⟩ 1 1 [.int .i64 (p : Int), .slice (some ⟨w.heap.size, 0, none⟩) 512 512] rfl rfl
    (World.news_of_block (heap_alloc_new W _)) (by simp [Value.oneCell']) (by unfold maxLen; omega) (by omega) (Nat.zero_le _) ?_
  intro av' W3 hown3 hgrow3 hat3
  (refine hK _ _ ?_; clear hK K)
  have c2' : W3.cell? ⟨d, 2, none⟩ = some av := hgrow3.cell c2A hdne
  have f2' : W3.frozen? ⟨d, 2, none⟩ = false := by
    rw [World.frozen?_of_block (hgrow3.block d (by simp; omega) hdne)]
    go_simp
  obtain ⟨g3, cap3, rfl⟩ := own_succ hown3
  refine ⟨⟨⟨_, c2'⟩, rfl⟩, ?_⟩
  clear c2A
  (repeat ((with_reducible refine wpPerm_F ?_); intro K hK; go_simp; refine hK _ _ ?_; clear hK K))
  (with_reducible refine wpPerm_L rfl ?_); intro K hK
  go_wp2
  go_end0
  have hne3 : ∀ k, k < W.heap.size → some k ≠ av.ownBlock → W3.heap[k]? = W.heap[k]? := fun k hk hka => by
    rw [hgrow3.block k (by simp; omega) hka]
    exact Below.heap_alloc _ _ _ hk
  have hd3 : W3.heap[d]? = some (.cells #[.slice (some ⟨bk, 0, none⟩) D.n D.n, pv, av, .int .i64 D.fuse, .int .i64 (D.calls : Int), .bool D.down] 171 (0, 0)) := by
    rw [hne3 d hdlt hdne]; exact H2.out.hdr
  have hown4 := own_same (w' := W3.setCell ⟨d, 2, none⟩ (.slice (some ⟨g3, 0, none⟩) (D.hist.length + 1) cap3)) hown3 (fun g cur _ hg => Below.heap_setCell _ _ _ _ (blk_ne hg hd3 (by decide)))
  have hS2 : ∀ k, av.ownBlock = some k → S k ∨ w.heap.size ≤ k := fun k hk => .inl (H2.out.ownS.2.2.2 k hk)
  refine ⟨rfl, _, _, _, H2.out.told p b Hb.out w.heap.size hbkne hsm (by rw [HV.out]; exact Hnb.out) hown4 (blk_set hd3 2 _) (by rw [size_set]; have := hgrow3.size; simp at this; omega) (fun k hk hkd hka => by rw [Below.heap_setCell _ _ _ _ (by simpa using hkd)]; exact hne3 k hk hka), ?_, ?_⟩
  · exact (hfr2.grown hgrow3 hS2).setCell (.inl H2.out.ownS.1) _
  · intro k hk
    rcases hk with hk | hk
    · exact .inl hk
    · rcases hat3 with he | he
      · exact hS2 k (he.symm.trans hk.symm)
      · have hk' := hk.trans he
        right
        have : k = W.heap.size + 1 := by simpa using hk'
        have := Hz.out
        omega

end
end Go.Proofs.Ytdjndeleafhglaa
