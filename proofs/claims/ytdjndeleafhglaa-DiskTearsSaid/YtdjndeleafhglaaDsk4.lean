/-
  The walk of disk.Write.
-/
import Derived.Test.YtdjndeleafhglaaDsk3
import Derived.Great.BuildSlice
namespace Go.Proofs.Ytdjndeleafhglaa
open Go.RowKit

theorem okVal_build {P : Program} {S : World → Prop} {a : Act} {o : Oper} (ty : TypeId) (parts : Array (Nat × Operand)) (ho : o.op = .build ty parts) (vals : Array (Nat × Value)) (hv : (parts.map fun p => (p.1, a.eval p.2)) = vals) (v : Value)
    (hr : ∀ w, (Instr.build ty vals).run P w = .ok v w) : ∀ w', S w' → okVal w' v ((execOp a.eval o).run P w') := fun w' _ => by
  unfold execOp
  simp only [ho, hv, Sem.run_bind, Sem.run_pure, Result.andThen_ok, hr w']
  exact ⟨rfl, rfl⟩

theorem fill_single (place : Nat → Option (Nat × Nat)) (cells : Array Value) (n : Nat) (v : Value) (vs : List Value) (hp : place 0 = some (0, n)) (hv : v.cells = vs.toArray) (hs : vs.length = n) (hc : cells.size = n) :
    Instr.fill place cells [(0, v)] = some vs.toArray := by
  rw [fill_one place cells 0 0 n v vs [] hp hv hs (by omega)]
  simp only [List.take_zero, List.nil_append, Nat.zero_add]
  rw [List.drop_of_length_le (by rw [Array.length_toList]; omega), List.append_nil]
  rfl

/-- A slice literal of one thing, whatever its cells. -/
theorem wp_buildOne {P : Program} {o : Oper} {a : Act} {w : World} {K : Act → World → Prop} {Q : Exit → Act → World → Prop} (t e : TypeId) (x : Operand) (ho : o.op = .buildSlice t 1 #[(0, x)])
    (v : Value) (hx : a.eval x = v) (vs : List Value) (hv : v.cells = vs.toArray) (ie : TypeInfo) (z : Value)
    (hu : P.underlying t = some (.slice e)) (hie : P.info? e = some ie) (hz : ie.zero = some z) (n : Nat) (his : ie.size = n) (hs : vs.length = n) (hn : 0 < n) (hn2 : n ≤ 1000000)
    (h : K (a.put o.dst (.slice (some ⟨w.heap.size, 0, none⟩) 1 1)) (w.alloc (.cells vs.toArray e))) : o.wp P a w K Q := by
  subst his
  refine wp_buildSlice t e 1 _ ho vs.toArray ie z hu hie hz (by omega) (by omega) ?_ h
  have : (Array.map (fun (x : Nat × Operand) => (x.1, a.eval x.2)) #[(0, x)]).toList = [(0, v)] := by simp [hx]
  rw [this]
  exact fill_single _ _ _ v vs (by simp) hv hs (by simp)

/-- A slice of bytes: it reads so. -/
structure BytesAt (w : World) (A : Option Addr) (n : Nat) (l : List UInt8) : Prop where
  len : l.length = n
  at_ : 0 < n → ∃ g o, A = some ⟨g, o, none⟩ ∧ w.rangeAt g o (bytesV l)

theorem rangeAt_keep {w w' : World} {g o : Nat} {cs : List Value} (h : w.rangeAt g o cs) (hb : w'.heap[g]? = w.heap[g]?) : w'.rangeAt g o cs := fun j v hv => (World.cell?_of_block (w := w) hb).trans (h j v hv)
theorem rangeAt_lt {w : World} {g o : Nat} {cs : List Value} (h : w.rangeAt g o cs) (hn : 0 < cs.length) : g < w.heap.size := World.block_lt_of_cell? w _ (h 0 _ (List.getElem?_eq_getElem hn))
theorem BytesAt.below {w w' : World} {A : Option Addr} {n : Nat} {l : List UInt8} (h : BytesAt w A n l) (hb : Below w.heap.size w w') : BytesAt w' A n l :=
  ⟨h.len, fun hn => by
    obtain ⟨g, o, hA, hr⟩ := h.at_ hn
    exact ⟨g, o, hA, rangeAt_keep hr (hb.block g (rangeAt_lt hr (by rw [bytesV_length, h.len]; exact hn)))⟩⟩
theorem BytesAt.nil (w : World) : BytesAt w none 0 [] := ⟨rfl, fun h => by omega⟩

/-- What a write tells, and the disk behind it. -/
def writeD (D : DS) (p : Int) (b : List UInt8) : Int × DS :=
  if D.down = true then (12, D) else if p < 0 ∨ (D.n : Int) ≤ p then (2, D) else if b.length ≠ 512 then (4, D)
  else burnD { D with pend := D.pend ++ [(p.toNat, b)] }

theorem wait_size : waitZero.cells.size = 513 := by rw [wait_cells, Array.size_append, Array.size_replicate]; rfl
theorem info_wait2 : ∃ i, Try.prog.info? 177 = some i ∧ i.zero = some waitZero ∧ i.size = 513 ∧ i.bytes = 520 := by
  obtain ⟨i, h1, h2, h3, h4⟩ := info_parts info_wait
  exact ⟨i, h1, h2, h3, h4⟩

section
variable {w : World} {d : Nat} {D : DS} {S : Nat → Prop} {bk : Nat} {pv av : Value} {H : List (Nat × List UInt8 × Nat)}

/-- Something more is pending: its row has grown by it. -/
theorem DiskP.wait {w w' : World} {d : Nat} {D : DS} {S : Nat → Prop} {bk : Nat} {pv pv' av : Value} {H : List (Nat × List UInt8 × Nat)} (h : DiskP w d D S bk pv av H) (p : Nat) (b : List UInt8) (hp : p < D.n) (hb : b.length = 512)
    (hsm : D.pend.length + D.hist.length + 1 ≤ 1000000)
    (hown : w'.ownsRow 0 177 513 pv' (D.pend.length + 1) (pendCells D.pend ++ (.int .i64 (p : Int) :: bytesV b)))
    (hhdr : w'.heap[d]? = some (.cells #[.slice (some ⟨bk, 0, none⟩) D.n D.n, pv', av, .int .i64 D.fuse, .int .i64 (D.calls : Int), .bool D.down] 171 (0, 0)))
    (hz : w.heap.size ≤ w'.heap.size) (hw : ∀ k, k < w.heap.size → k ≠ d → some k ≠ pv.ownBlock → w'.heap[k]? = w.heap[k]?) :
    DiskP w' d { D with pend := D.pend ++ [(p, b)] } (fun k => S k ∨ some k = pv'.ownBlock) bk pv' av H := by
  obtain ⟨C, hC, hCs⟩ := h.blk
  have hkeep : ∀ {k : Nat} {cs : Array Value} {t : TypeId}, w.heap[k]? = some (.cells cs t (0, 0)) → t ≠ 177 → t ≠ 171 → w'.heap[k]? = w.heap[k]? := fun {k cs t} hk ht1 ht2 =>
    hw k (blk_lt hk) (blk_ne hk h.hdr ht2) (own_ne h.pend hk ht1)
  refine ⟨hhdr, ⟨C, (hkeep hC (by decide) (by decide)).trans hC, hCs⟩, fun q hq => rangeAt_keep (h.kept q hq) (hkeep hC (by decide) (by decide)), h.klen, ?_, fun x hx => ?_, ?_, h.hsay, fun x hx => ?_, ?_,
    ⟨.inl h.ownS.1, .inl h.ownS.2.1, fun k hk => .inr hk.symm, fun k hk => .inl (h.ownS.2.2.2 k hk)⟩, fun k hk => ?_⟩
  · rw [List.length_append, pendCells, List.flatMap_append]
    simpa [pendCells] using hown
  · rcases List.mem_append.1 hx with hx | hx
    · exact h.plen x hx
    · obtain rfl : x = (p, b) := by simpa using hx
      exact ⟨hp, hb⟩
  · exact own_same h.hist fun g cur _ hg => hkeep hg (by decide) (by decide)
  · obtain ⟨h1, h2, h3⟩ := h.hblk x hx
    exact ⟨(hkeep h1 (by decide) (by decide)).trans h1, h2, h3⟩
  · obtain ⟨s1, s2, s3⟩ := h.small
    exact ⟨s1, by simp only [List.length_append, List.length_cons, List.length_nil]; omega, s3⟩
  · rcases hk with hk | hk
    · exact Nat.lt_of_lt_of_le (h.ltS k hk) hz
    · exact (hown.lt k hk.symm).2

set_option maxRecDepth 100000 in
set_option maxHeartbeats 400000 in
theorem Write_down (p : Int) (A : Option Addr) (n c : Nat) (h : DiskP w d D S bk pv av H) (hd : D.down = true) :
    Calls Try.prog 50 #[.pointer (some ⟨d, 0, none⟩), .int .i64 p, .slice A n c] w fun e w' => e = .returned (.int .i64 12) ∧ w = w' := by
  go_enter Try.func50, Try.ntmps50
  go_wp2_with fail
  refine (Down_any h).mono ?_; rintro e w1 ⟨rfl, rfl⟩
  go_wp2
  go_ret
  exact ⟨rfl, rfl⟩

set_option maxRecDepth 100000 in
set_option maxHeartbeats 400000 in
theorem Write_range (p : Int) (A : Option Addr) (n c : Nat) (h : DiskP w d D S bk pv av H) (hd : D.down = false) (hp : p < 0 ∨ (D.n : Int) ≤ p) :
    Calls Try.prog 50 #[.pointer (some ⟨d, 0, none⟩), .int .i64 p, .slice A n c] w fun e w' => e = .returned (.int .i64 2) ∧ w = w' := by
  have ha : askedD D p = 2 := by unfold askedD; rw [if_pos hp]
  go_enter Try.func50, Try.ntmps50
  go_wp2_with fail
  refine (Down_any h).mono ?_; rintro e w1 ⟨rfl, rfl⟩
  go_wp2_with fail
  refine (asked_any _ h).mono ?_; rintro e w1 ⟨rfl, rfl⟩
  go_wp2
  go_ret
  exact ⟨rfl, rfl⟩

set_option maxRecDepth 100000 in
set_option maxHeartbeats 400000 in
theorem Write_form (p : Int) (A : Option Addr) (n c : Nat) (h : DiskP w d D S bk pv av H) (hd : D.down = false) (hp : ¬ (p < 0 ∨ (D.n : Int) ≤ p)) (hn : n ≠ 512) :
    Calls Try.prog 50 #[.pointer (some ⟨d, 0, none⟩), .int .i64 p, .slice A n c] w fun e w' => e = .returned (.int .i64 4) ∧ w = w' := by
  have ha : askedD D p = 0 := by unfold askedD; rw [if_neg hp]
  have hnb : ((n : Int) != 512) = true := by simp; omega
  go_enter Try.func50, Try.ntmps50
  go_wp2_with fail
  refine (Down_any h).mono ?_; rintro e w1 ⟨rfl, rfl⟩
  go_wp2_with fail
  refine (asked_any _ h).mono ?_; rintro e w1 ⟨rfl, rfl⟩
  go_wp2
  go_ret
  exact ⟨rfl, rfl⟩

set_option maxRecDepth 100000 in
set_option maxHeartbeats 1000000 in
theorem Write_yes (p : Nat) (g o c : Nat) (b : List UInt8) (h : DiskP w d D S bk pv av H) (hd : D.down = false) (hp : p < D.n) (hb : b.length = 512) (hr : w.rangeAt g o (bytesV b)) (hgS : ¬ S g)
    (hsm : D.pend.length + D.hist.length + 1 ≤ 1000000) (hc : D.calls + 1 ≤ 1000000000) :
    Calls Try.prog 50 #[.pointer (some ⟨d, 0, none⟩), .int .i64 (p : Int), .slice (some ⟨g, o, none⟩) 512 c] w fun e w' =>
      e = .returned (.int .i64 (burnD { D with pend := D.pend ++ [(p, b)] }).1) ∧ ∃ S' pv', DiskP w' d (burnD { D with pend := D.pend ++ [(p, b)] }).2 S' bk pv' av H ∧ Frame S w w' ∧ ∀ k, S' k → S k ∨ w.heap.size ≤ k := by
  have ha : askedD D p = 0 := by unfold askedD; rw [if_neg (by omega)]
  have hlen : (bytesV b).length = 512 := by rw [bytesV_length, hb]
  have hone := bytesV_one b
  have hszV : (Try.prog.info? 175).map (·.size) = some (bytesV b).length := by rw [hlen]; exact size_block
  have hbuild := run_build_wait (p : Int) (bytesV b) hlen
  have hgp : some g ≠ pv.ownBlock := fun e => hgS (h.ownS.2.2.1 g e.symm)
  have harr : ∀ w', (Instr.arrayAt 175 (.slice (some ⟨g, o, none⟩) 512 c)).run Try.prog w' = .ok (.pointer (some ⟨g, o, none⟩)) w' := fun _ => by kernel_rfl
  have hlt : g < w.heap.size := rangeAt_lt hr (by rw [hlen]; decide)
  generalize hV : bytesV b = V at hlen hone hr hszV hbuild
  have HV := Lib.hid hV; clear hV
  have Hlen := Lib.hid hlen; clear hlen
  have Hone := Lib.hid hone; clear hone
  have Hb := Lib.hid hb; clear hb
  have Hr := Lib.hid hr; clear hr
  have HszV := Lib.hid hszV; clear hszV
  have Hbuild := Lib.hid hbuild; clear hbuild
  have Harr := Lib.hid harr; clear harr
  go_enter Try.func50, Try.ntmps50
  go_wp2_with fail
  refine (Down_any h).mono ?_; rintro e w1 ⟨rfl, rfl⟩
  go_wp2_with fail
  refine (asked_any _ h).mono ?_; rintro e w1 ⟨rfl, rfl⟩
  go_wp2_with fail
  obtain ⟨c0, c1, c2, c3, c4, c5, hf⟩ := h.cells
  refine wp_region_in (fun w' => w'.cell? ⟨d, 1, none⟩ = some pv ∧ w'.rangeAt g o V) [(0, true), (1, true), (2, true), (3, true), (4, true), (5, true), (6, true), (7, true), (8, true), (9, true), (10, false), (11, false), (12, true), (13, true), (14, false)] (by kernel_rfl) (by kernel_rfl) (fun _ _ _ _ _ h => h) ⟨c1, by simpa using Hr.out⟩ (fun hne => ?_)
  have hs0 : ∀ x : InS (fun w' => w'.cell? ⟨d, 1, none⟩ = some pv ∧ w'.rangeAt g o V), x.w.cell? ⟨d, 1, none⟩ = some pv := fun x => x.h.1
  obtain ⟨i1, hi1, hi1z, hi1s, hi1b⟩ := info_wait2
  have hdlt := blk_lt h.hdr
  have hdne : some d ≠ pv.ownBlock := own_ne h.pend h.hdr (by decide)
  simp only [permOps, List.map_cons, List.map_nil, List.getD_cons_zero, List.getD_cons_succ]
  (iterate 7 ((with_reducible refine wpPerm_F ?_); intro K hK; go_simp; refine hK _ _ ?_; clear hK K))
  have Harr2 := Harr.out
  (iterate 1 ((with_reducible refine wpPerm_F ?_); intro K hK; go_simp; refine hK _ _ ?_; clear hK K))
  refine wpPerm_F1 rfl _ (okVal_load 175 _ rfl g o rfl V _ (fun w' ⟨x, hx⟩ => by rw [hx]; exact x.h.2) Try.underlying175 rfl HszV.out) ?_
  refine wpPerm_F1 rfl _ (okVal_build 177 _ rfl #[(0, .int .i64 (p : Int)), (1, .agg V.toArray)] (by go_simp) _ Hbuild.out) ?_
  (with_reducible refine wpPerm_E rfl ?_); intro K hK
  refine wp_buildOne 169 177 _ rfl (.agg (.int .i64 (p : Int) :: V).toArray) rfl (.int .i64 (p : Int) :: V) rfl i1 waitZero Try.underlying169 hi1 hi1z 513 hi1s (by rw [List.length_cons, Hlen.out]) (by decide) (by decide) ?_
  (refine hK _ _ ?_; clear hK K)
  have hown0 : (w.drew.alloc (.cells (.int .i64 (p : Int) :: V).toArray 177)).ownsRow 0 177 513 pv D.pend.length (pendCells D.pend) := (World.ownsRow.drew h.pend).alloc _
  have hfr2 := ((Frame.refl S w).drew).alloc (.cells (.int .i64 (p : Int) :: V).toArray 177)
  have c1A : (w.drew.alloc (.cells (.int .i64 (p : Int) :: V).toArray 177)).cell? ⟨d, 1, none⟩ = some pv := by go_simp
  have hrA : (w.drew.alloc (.cells (.int .i64 (p : Int) :: V).toArray 177)).rangeAt g o V := rangeAt_keep (w := w) Hr.out (Below.heap_alloc w.drew _ _ hlt)
  have hzA : (w.drew.alloc (.cells (.int .i64 (p : Int) :: V).toArray 177)).heap.size = w.heap.size + 1 := Array.size_push _
  have hblkA : ∀ k, k < w.heap.size → (w.drew.alloc (.cells (.int .i64 (p : Int) :: V).toArray 177)).heap[k]? = w.heap[k]? := fun k hk => Below.heap_alloc w.drew _ _ hk
  have hnewb : (w.drew.alloc (.cells (.int .i64 (p : Int) :: V).toArray 177)).heap[w.heap.size]? = some (.cells (.int .i64 (p : Int) :: V).toArray 177 (0, 0)) := heap_alloc_new w.drew _
  refine ⟨⟨⟨_, c1A, hrA⟩, rfl⟩, ?_⟩
  (with_reducible refine wpPerm_E rfl ?_); intro K hK
  have hl2 : (Value.int .i64 (p : Int) :: V).length = 1 * 513 := by rw [List.length_cons, Hlen.out]
  have hn2 := World.news_of_block hnewb
  have ho2 : ∀ u ∈ (Value.int .i64 (p : Int) :: V), u.oneCell' = true := List.forall_mem_cons.2 ⟨rfl, Hone.out⟩
  refine wp_append_at (.tmp 23) (.tmp 29) 169 ?r1 0 177 i1 waitZero 513 520 Try.underlying169 hi1 hi1z hi1s hi1b ?r2 (by decide) pv D.pend.length (pendCells D.pend) ?r3 hown0 ⟨w.heap.size, 0, none⟩ 1 1 (.int .i64 (p : Int) :: V) ?r4 hl2
    hn2 ho2 ?_ ?_ (Nat.zero_le _) ?_
  case r1 => rfl
  case r2 => exact wait_size
  case r3 => rfl
  case r4 => rfl
  · unfold maxLen; omega
  · omega
  intro pv' W3 hown3 hgrow3 hat3
  (refine hK _ _ ?_; clear hK K)
  have c1' : W3.cell? ⟨d, 1, none⟩ = some pv := hgrow3.cell c1A hdne
  have f1' : W3.frozen? ⟨d, 1, none⟩ = false := by
    rw [World.frozen?_of_block (hgrow3.block d (by omega) hdne), World.frozen?_of_block (hblkA d hdlt)]
    exact hf 1
  have hrA3 : W3.rangeAt g o V := rangeAt_keep hrA (hgrow3.block g (by omega) hgp)
  obtain ⟨g3, cap3, rfl⟩ := own_succ hown3
  refine ⟨⟨⟨_, c1', hrA3⟩, rfl⟩, ?_⟩
  (repeat ((with_reducible refine wpPerm_F ?_); intro K hK; go_simp; refine hK _ _ ?_; clear hK K))
  (with_reducible refine wpPerm_L rfl ?_); intro K hK
  have hne3 : ∀ k, k < w.heap.size → some k ≠ pv.ownBlock → W3.heap[k]? = w.heap[k]? := fun k hk hka => by
    rw [hgrow3.block k (by omega) hka]; exact hblkA k hk
  have hd3 : W3.heap[d]? = some (.cells #[.slice (some ⟨bk, 0, none⟩) D.n D.n, pv, av, .int .i64 D.fuse, .int .i64 (D.calls : Int), .bool D.down] 171 (0, 0)) := by
    rw [hne3 d hdlt hdne]; exact h.hdr
  have hown4 := own_same (w' := W3.setCell ⟨d, 1, none⟩ (.slice (some ⟨g3, 0, none⟩) (D.pend.length + 1) cap3)) hown3 (fun g cur _ hg => Below.heap_setCell _ _ _ _ (blk_ne hg hd3 (by decide)))
  have hz3 : w.heap.size ≤ W3.heap.size := by have := hgrow3.size; omega
  have h2 := h.wait (w' := W3.setCell ⟨d, 1, none⟩ (.slice (some ⟨g3, 0, none⟩) (D.pend.length + 1) cap3)) p b hp Hb.out hsm (by rw [HV.out]; exact hown4) (blk_set hd3 1 _) (by rw [size_set]; exact hz3) (fun k hk hkd hka => by rw [Below.heap_setCell _ _ _ _ (by simpa using hkd)]; exact hne3 k hk hka)
  have hS2 : ∀ k, pv.ownBlock = some k → S k ∨ w.heap.size ≤ k := fun k hk => .inl (h.ownS.2.2.1 k hk)
  have hfr3 : Frame S w (W3.setCell ⟨d, 1, none⟩ (.slice (some ⟨g3, 0, none⟩) (D.pend.length + 1) cap3)) := (hfr2.grown hgrow3 hS2).setCell (.inl h.ownS.1) _
  have hSS : ∀ k, (S k ∨ some k = (Value.slice (some ⟨g3, 0, none⟩) (D.pend.length + 1) cap3).ownBlock) → S k ∨ w.heap.size ≤ k := fun k hk => by
    rcases hk with hk | hk
    · exact .inl hk
    · rcases hat3 with he | he
      · exact hS2 k (he.symm.trans hk.symm)
      · have hk' := hk.trans he
        right
        have : k = w.heap.size + 1 := by rw [hzA] at hk'; simpa using hk'
        omega
  have H2 := Lib.hid h2; clear h2
  clear hown4 hd3 hne3 hown3 hgrow3 hat3
  go_simp
  (refine hK _ _ ?_; clear hK K)
  go_wp2_with fail
  refine (burn_any H2.out hc).mono ?_
  rintro e w1 ⟨rfl, h3, hf3⟩
  go_wp2
  go_ret
  exact ⟨by simp only [hd]; rfl, _, _, h3, hfr3.trans hf3 hSS, hSS⟩

end
end Go.Proofs.Ytdjndeleafhglaa
