/-
  The walk of disk.Flush.
-/
import Derived.Test.YtdjndeleafhglaaDsk5
namespace Go.Proofs.Ytdjndeleafhglaa
open Go.RowKit

/-- One more word after another. -/
def keepAll (D : DS) (l : List (Nat × List UInt8)) : DS := l.foldl (fun D x => keepD D x.1 x.2) D
theorem keepAll_snoc (D : DS) (l : List (Nat × List UInt8)) (x : Nat × List UInt8) : keepAll D (l ++ [x]) = keepD (keepAll D l) x.1 x.2 := by simp [keepAll]
theorem keepAll_same (l : List (Nat × List UInt8)) : ∀ D : DS, (keepAll D l).n = D.n ∧ (keepAll D l).pend = D.pend ∧ (keepAll D l).hist = D.hist ++ l ∧ (keepAll D l).fuse = D.fuse ∧ (keepAll D l).calls = D.calls ∧ (keepAll D l).down = D.down := by
  induction l with
  | nil => intro D; simp [keepAll]
  | cons x l ih =>
    intro D
    obtain ⟨h1, h2, h3, h4, h5, h6⟩ := ih (keepD D x.1 x.2)
    refine ⟨h1, h2, h3.trans ?_, h4, h5, h6⟩
    simp [keepD]

/-- Nothing is pending any more. -/
def wipeD (D : DS) : DS := { D with pend := [] }

/-- What a flush tells, and the disk behind it. -/
def flushD (D : DS) : Int × DS :=
  if D.down = true then (12, D) else if (burnD D).1 ≠ 0 then burnD D else (0, wipeD (keepAll (burnD D).2 D.pend))

theorem pendCells_get (l : List (Nat × List UInt8)) : ∀ (k : Nat) (x : Nat × List UInt8) (j : Nat), (∀ y ∈ l, y.2.length = 512) → l[k]? = some x → j < 513 → (pendCells l)[k * 513 + j]? = (.int .i64 (x.1 : Int) :: bytesV x.2 : List Value)[j]? := by
  induction l with
  | nil => intro k x j _ h; simp at h
  | cons y l ih =>
    intro k x j hy h hj
    have hlen : (.int .i64 (y.1 : Int) :: bytesV y.2 : List Value).length = 513 := by rw [List.length_cons, bytesV_length, hy y (by simp)]
    have e : pendCells (y :: l) = (.int .i64 (y.1 : Int) :: bytesV y.2) ++ pendCells l := by simp [pendCells]
    rw [e]
    cases k with
    | zero =>
      obtain rfl : y = x := by simpa using h
      rw [List.getElem?_append_left (by omega)]
      simp
    | succ k =>
      rw [List.getElem?_append_right (by omega), hlen, show (k + 1) * 513 + j - 513 = k * 513 + j by omega]
      exact ih k x j (fun z hz => hy z (by simp [hz])) (by simpa using h) hj
theorem pend_at {w : World} {g n cap : Nat} {l : List (Nat × List UInt8)} (h : w.ownsRow 0 177 513 (.slice (some ⟨g, 0, none⟩) n cap) n (pendCells l)) (hl : ∀ y ∈ l, y.2.length = 512) (hn : n = l.length)
    (k : Nat) (x : Nat × List UInt8) (hk : l[k]? = some x) : w.rangeAt g (k * 513) (.int .i64 (x.1 : Int) :: bytesV x.2) := fun j v hv => by
  have hlen : (.int .i64 (x.1 : Int) :: bytesV x.2 : List Value).length = 513 := by rw [List.length_cons, bytesV_length, hl x (List.mem_of_getElem? hk)]
  have hj : j < 513 := by rw [← hlen]; exact (List.getElem?_eq_some_iff.1 hv).1
  have hkl : k < l.length := (List.getElem?_eq_some_iff.1 hk).1
  have hmul : (k + 1) * 513 ≤ n * 513 := Nat.mul_le_mul_right _ (by omega)
  rw [h.cellAt (k * 513 + j) (by omega), pendCells_get l k x j hl hk hj, hv]

section
variable {w : World} {d : Nat} {D : DS} {S : Nat → Prop} {bk : Nat} {pv av : Value} {H : List (Nat × List UInt8 × Nat)}

/-- What is pending is let go. -/
theorem DiskP.wiped (h : DiskP w d D S bk pv av H) : DiskP (w.setCell ⟨d, 1, none⟩ (.slice none 0 0)) d (wipeD D) S bk (.slice none 0 0) av H := by
  obtain ⟨C, hC, hCs⟩ := h.blk
  have hb : ∀ k, k ≠ d → (w.setCell ⟨d, 1, none⟩ (.slice none 0 0)).heap[k]? = w.heap[k]? := fun k hk => Below.heap_setCell _ _ _ _ (by simpa using hk)
  refine ⟨blk_set h.hdr 1 _, ⟨C, (hb bk (blk_ne hC h.hdr (by decide))).trans hC, hCs⟩, fun q hq => rangeAt_keep (h.kept q hq) (hb bk (blk_ne hC h.hdr (by decide))), h.klen, World.ownsRow_nil _ _ _ _, fun x hx => by simp [wipeD] at hx,
    own_same h.hist fun g cur _ hg => hb g (blk_ne hg h.hdr (by decide)), h.hsay, fun x hx => ?_, ?_, ⟨h.ownS.1, h.ownS.2.1, fun k hk => by simp [Value.ownBlock] at hk, h.ownS.2.2.2⟩, fun k hk => by rw [size_set]; exact h.ltS k hk⟩
  · obtain ⟨h1, h2, h3⟩ := h.hblk x hx
    exact ⟨(hb _ (blk_ne h1 h.hdr (by decide))).trans h1, h2, h3⟩
  · obtain ⟨s1, s2, s3⟩ := h.small
    exact ⟨s1, by simp only [wipeD, List.length_nil]; omega, s3⟩

theorem Flush_nil (w : World) : Calls Try.prog 81 #[.pointer none] w fun e w' => e = .returned (.int .i64 1) ∧ w = w' := by
  go_enter Try.func81, Try.ntmps81
  go_wp2_with fail
  go_ret
  exact ⟨rfl, rfl⟩

set_option maxRecDepth 100000 in
set_option maxHeartbeats 400000 in
theorem Flush_down (h : DiskP w d D S bk pv av H) (hd : D.down = true) :
    Calls Try.prog 81 #[.pointer (some ⟨d, 0, none⟩)] w fun e w' => e = .returned (.int .i64 12) ∧ w = w' := by
  obtain ⟨c0, c1, c2, c3, c4, c5, hf⟩ := h.cells
  rw [hd] at c5
  go_enter Try.func81, Try.ntmps81
  go_wp2
  go_ret
  exact ⟨rfl, rfl⟩

set_option maxRecDepth 100000 in
set_option maxHeartbeats 400000 in
theorem Flush_burnt (h : DiskP w d D S bk pv av H) (hd : D.down = false) (hc : D.calls + 1 ≤ 1000000000) (hb : (burnD D).1 ≠ 0) :
    Calls Try.prog 81 #[.pointer (some ⟨d, 0, none⟩)] w fun e w' => e = .returned (.int .i64 (burnD D).1) ∧ DiskP w' d (burnD D).2 S bk pv av H ∧ Frame S w w' := by
  obtain ⟨c0, c1, c2, c3, c4, c5, hf⟩ := h.cells
  rw [hd] at c5
  have hb2 : ((burnD D).1 != 0) = true := by simpa using hb
  have Hbu := Lib.hid (burn_any h hc)
  generalize burnD D = B at Hbu hb hb2
  go_enter Try.func81, Try.ntmps81
  go_wp2_with fail
  refine Hbu.out.mono ?_; rintro e w1 ⟨rfl, h1, hf1⟩
  go_wp2
  go_ret
  exact ⟨rfl, h1, hf1⟩

set_option maxRecDepth 100000 in
set_option maxHeartbeats 1000000 in
theorem Flush_yes (h : DiskP w d D S bk pv av H) (hd : D.down = false) (hc : D.calls + 1 ≤ 1000000000) (hb : (burnD D).1 = 0) (hsm : 2 * D.pend.length + D.hist.length ≤ 1000000) :
    Calls Try.prog 81 #[.pointer (some ⟨d, 0, none⟩)] w fun e w' => e = .returned (.int .i64 0) ∧
      ∃ S' pv' av' H', DiskP w' d (wipeD (keepAll (burnD D).2 D.pend)) S' bk pv' av' H' ∧ Frame S w w' ∧ ∀ k, S' k → S k ∨ w.heap.size ≤ k := by
  obtain ⟨c0, c1, c2, c3, c4, c5, hf⟩ := h.cells
  rw [hd] at c5
  have Hbu := Lib.hid (burn_any h hc)
  have hpe : (burnD D).2.pend = D.pend := by unfold burnD; split <;> (try split) <;> rfl
  have hhi : (burnD D).2.hist = D.hist := by unfold burnD; split <;> (try split) <;> rfl
  obtain ⟨A, cap, rfl, hA⟩ : ∃ A cap, pv = .slice A D.pend.length cap ∧ (0 < D.pend.length → ∃ g, A = some ⟨g, 0, none⟩) := by
    rcases h.pend.2 with ⟨rfl, h0⟩ | ⟨g, cap, _, rfl, _⟩
    · exact ⟨none, 0, by rw [h0], fun h => by omega⟩
    · exact ⟨_, cap, rfl, fun _ => ⟨g, rfl⟩⟩
  have Hh := Lib.hid h; clear h
  have HA := Lib.hid hA; clear hA
  generalize hB : burnD D = B at Hbu hb hpe hhi
  have HB := Lib.hid hB; clear hB
  go_enter Try.func81, Try.ntmps81
  go_wp2_with fail
  refine Hbu.out.mono ?_; rintro e w1 ⟨rfl, h1, hf1⟩
  clear c0 c1 c2 c3 c4 c5 hf
  obtain ⟨c0, c1, c2, c3, c4, c5, hf⟩ := h1.cells
  have H1 := Lib.hid h1; clear h1
  go_wp2_with fail
  go_loopw [24] (fun i wr => ∃ k : Nat, k ≤ D.pend.length ∧ i = .int .i64 k ∧ ∃ S' av' H', DiskP wr d (keepAll B.2 (D.pend.take k)) S' bk (.slice A D.pend.length cap) av' H' ∧ Frame S w1 wr ∧ ∀ j, S' j → S j ∨ w1.heap.size ≤ j) (fun i _ => D.pend.length - (intOf i).toNat)
  case atStart => exact ⟨0, by omega, rfl, S, av, H, H1.out, Frame.refl _ _, fun j hj => .inl hj⟩
  case round =>
    obtain ⟨k, hk, rfl, S', av', H', h2, hfr, hSS⟩ := hrel
    obtain ⟨kn, kp, kh, kf, kc, kd⟩ := keepAll_same (D.pend.take k) B.2
    by_cases hlt : k < D.pend.length
    · obtain ⟨g, rfl⟩ := HA.out (by omega)
      obtain ⟨⟨q, b⟩, hqb⟩ : ∃ x, D.pend[k]? = some x := ⟨_, List.getElem?_eq_getElem hlt⟩
      have hmem : (q, b) ∈ (keepAll B.2 (D.pend.take k)).pend := by rw [kp, hpe]; exact List.mem_of_getElem? hqb
      obtain ⟨hqn, hbl⟩ := h2.plen _ hmem
      have hown := h2.pend
      rw [kp, hpe] at hown
      have hrg := pend_at hown (fun y hy => (h2.plen y (by rw [kp, hpe]; exact hy)).2) rfl k (q, b) hqb
      simp only at hrg hqn hbl
      have hlen : (bytesV b).length = 512 := by rw [bytesV_length, hbl]
      have hszU : (Try.prog.info? 177).map (·.size) = some (.int .i64 (q : Int) :: bytesV b : List Value).length := by
        obtain ⟨i1, hi1, _, hi1s, _⟩ := info_wait2
        rw [hi1, List.length_cons, hlen]; simp [hi1s]
      have honeU : ∀ v ∈ (.int .i64 (q : Int) :: bytesV b : List Value), v.oneCell' = true := List.forall_mem_cons.2 ⟨rfl, bytesV_one b⟩
      have hszV : (Try.prog.info? 175).map (·.size) = some (bytesV b).length := by rw [hlen]; exact size_block
      obtain ⟨U, hU⟩ : ∃ U : List Value, U = .int .i64 (q : Int) :: bytesV b := ⟨_, rfl⟩
      have hUl : U.length = 513 := by rw [hU, List.length_cons, hlen]
      rw [← hU] at hrg hszU honeU
      have hkn : (k : Int) < (D.pend.length : Int) := by omega
      have Hqb := Lib.hid hqb; clear hqb
      have HUl := Lib.hid hUl; clear hUl
      have Hrg := Lib.hid hrg; clear hrg
      have HszU := Lib.hid hszU; clear hszU
      have HszV := Lib.hid hszV; clear hszV
      have HoneU := Lib.hid honeU; clear honeU
      have HU := Lib.hid hU; clear hU
      have Hlen := Lib.hid hlen; clear hlen
      go_wp2_with fail
      refine wp_load_mid 177 _ rfl g (k * 513) rfl U _ Hrg.out Try.underlying177 rfl HszU.out ?_
      go_wp2_with fail
      rw [run_storeCells_fresh wr _ U _ (by rw [HUl.out]; exact zero_wait_size) HoneU.out]
      have hcell : (wr.alloc (.cells U.toArray 177)).cell? ⟨wr.heap.size, 0, none⟩ = some (.int .i64 (q : Int)) := by
        rw [cell_of_row _ _ _ _ _ _ (heap_alloc_new wr _), HU.out]; simp
      have hrg2 : (wr.alloc (.cells U.toArray 177)).rangeAt wr.heap.size 1 (bytesV b) := fun j v hv => by
        rw [cell_of_row _ _ _ _ _ _ (heap_alloc_new wr _), HU.out]
        simpa [Nat.add_comm 1 j] using hv
      have h3 := h2.below (Bbox wr (.cells U.toArray 177))
      have hfr3 := hfr.alloc (.cells U.toArray 177)
      have hk3 := keep_any q b h3 hqn hbl (by rw [kp, kh, hpe, hhi]; simp only [List.length_append, List.length_take]; omega)
      have Hk3 := Lib.hid hk3; clear hk3
      have Hrg2 := Lib.hid hrg2; clear hrg2
      have hsz4 : wr.heap.size ≤ (wr.alloc (.cells U.toArray 177)).heap.size := by simp
      have hzr := hfr.size
      generalize wr.alloc (.cells U.toArray 177) = wr2 at hcell Hrg2 hfr3 Hk3 hsz4 ⊢
      go_wp2_with fail
      refine wp_load_mid 175 _ rfl wr.heap.size 1 rfl (bytesV b) _ Hrg2.out Try.underlying175 rfl HszV.out ?_
      go_wp2_with fail
      refine Hk3.out.mono ?_
      rintro e w5 ⟨rfl, S5, av5, H5, h5, hf5, hS5⟩
      have hD5 : keepD (keepAll B.2 (D.pend.take k)) q b = keepAll B.2 (D.pend.take (k + 1)) := by
        rw [List.take_add_one, Hqb.out, Option.toList_some, keepAll_snoc]
      rw [hD5] at h5
      have hrel5 : ∃ S' av' H', DiskP w5 d (keepAll B.2 (D.pend.take (k + 1))) S' bk (.slice (some ⟨g, 0, none⟩) D.pend.length cap) av' H' ∧ Frame S w1 w5 ∧ ∀ j, S' j → S j ∨ w1.heap.size ≤ j :=
        ⟨S5, av5, H5, h5, hfr3.trans hf5 hSS, fun j hj => by
          rcases hS5 j hj with hj | hj
          · exact hSS j hj
          · exact .inr (by omega)⟩
      clear h5 hf5 hS5 hfr3 Hk3 hcell
      go_wp2_with fail
      go_roundw
      case rel => exact ⟨k + 1, by omega, by go_num, hrel5⟩
      case measure => simp [intOf]; omega
    · have hkl : D.pend.take k = D.pend := List.take_of_length_le (by omega)
      rw [hkl] at h2 
      have hkn : ¬ (k : Int) < (D.pend.length : Int) := by omega
      obtain ⟨c0, c1, c2, c3, c4, c5, hf⟩ := h2.cells
      have H2 := Lib.hid h2; clear h2
      clear c0 c2 c3 c4 c5
      go_wp2_with fail
      go_ret
      refine ⟨rfl, S', ⟨_, av', H', H2.out.wiped⟩, ?_, fun j hj => ?_⟩
      · exact hf1.trans (hfr.setCell (hSS d H2.out.ownS.1) _) (fun j hj => .inl hj)
      · have := hf1.size
        rcases hSS j hj with hj | hj
        · exact .inl hj
        · exact .inr (by omega)

end
end Go.Proofs.Ytdjndeleafhglaa
