/-
  The walks of the package disk: what only looks at a disk, and what turns a number of its header.
-/
import Derived.Test.YtdjndeleafhglaaDsk0
import Derived.Test.YtdjndeleafhglaaRows
namespace Go.Proofs.Ytdjndeleafhglaa
open Go.RowKit

section
variable {w : World} {d : Nat} {D : DS} {S : Nat → Prop} {bk : Nat} {pv av : Value} {H : List (Nat × List UInt8 × Nat)}

set_option maxHeartbeats 400000 in
theorem Down_any (h : DiskP w d D S bk pv av H) :
    Calls Try.prog 75 #[.pointer (some ⟨d, 0, none⟩)] w fun e w' => e = .returned (.bool D.down) ∧ w = w' := by
  obtain ⟨c0, c1, c2, c3, c4, c5, hf⟩ := h.cells
  go_enter Try.func75, Try.ntmps75
  go_wp2
  go_ret
  exact ⟨ret_bool (by simp), rfl⟩

set_option maxHeartbeats 400000 in
theorem DSize_any (h : DiskP w d D S bk pv av H) :
    Calls Try.prog 77 #[.pointer (some ⟨d, 0, none⟩)] w fun e w' => e = .returned (.int .i64 (D.n : Int)) ∧ w = w' := by
  obtain ⟨c0, c1, c2, c3, c4, c5, hf⟩ := h.cells
  go_enter Try.func77, Try.ntmps77
  go_wp2
  go_ret
  exact ⟨rfl, rfl⟩

set_option maxHeartbeats 400000 in
theorem DCalls_any (h : DiskP w d D S bk pv av H) :
    Calls Try.prog 76 #[.pointer (some ⟨d, 0, none⟩)] w fun e w' => e = .returned (.int .i64 (D.calls : Int)) ∧ w = w' := by
  obtain ⟨c0, c1, c2, c3, c4, c5, hf⟩ := h.cells
  go_enter Try.func76, Try.ntmps76
  go_wp2
  go_ret
  exact ⟨rfl, rfl⟩

/-- May a place be asked for? 0: yes; 2: no. -/
def askedD (D : DS) (p : Int) : Int := if p < 0 ∨ (D.n : Int) ≤ p then 2 else 0

set_option maxHeartbeats 400000 in
theorem asked_any (p : Int) (h : DiskP w d D S bk pv av H) :
    Calls Try.prog 131 #[.pointer (some ⟨d, 0, none⟩), .int .i64 p] w fun e w' => e = .returned (.int .i64 (askedD D p)) ∧ w = w' := by
  obtain ⟨c0, c1, c2, c3, c4, c5, hf⟩ := h.cells
  by_cases h0 : p < 0
  · go_enter Try.func131, Try.ntmps131
    go_wp2
    go_ret
    exact ⟨ret_int (by unfold askedD; rw [if_pos (.inl h0)]), rfl⟩
  · by_cases h1 : (D.n : Int) ≤ p
    · go_enter Try.func131, Try.ntmps131
      go_wp2
      go_ret
      exact ⟨ret_int (by unfold askedD; rw [if_pos (.inr h1)]), rfl⟩
    · go_enter Try.func131, Try.ntmps131
      go_wp2
      go_ret
      exact ⟨ret_int (by unfold askedD; rw [if_neg (by omega)]), rfl⟩

/-- A call that turns: what it tells, and the disk behind it. -/
def burnD (D : DS) : Int × DS :=
  if D.fuse = 0 then (12, { D with calls := D.calls + 1, down := true })
  else if 0 < D.fuse then (0, { D with calls := D.calls + 1, fuse := D.fuse - 1 })
  else (0, { D with calls := D.calls + 1 })

theorem size_set (w : World) (a : Addr) (v : Value) : (w.setCell a v).heap.size = w.heap.size := by simp [World.setCell]

set_option maxHeartbeats 400000 in
theorem burn_any (h : DiskP w d D S bk pv av H) (hc : D.calls + 1 ≤ 1000000000) :
    Calls Try.prog 133 #[.pointer (some ⟨d, 0, none⟩)] w fun e w' => e = .returned (.int .i64 (burnD D).1) ∧ DiskP w' d (burnD D).2 S bk pv av H ∧ Frame S w w' := by
  obtain ⟨c0, c1, c2, c3, c4, c5, hf⟩ := h.cells
  have hS := h.ownS.1
  have hd := h.hdr
  obtain ⟨s1, s2, s3, s4, s5⟩ := h.small
  unfold burnD
  have far : ∀ (w1 w2 : World), (∀ k, k ≠ d → w2.heap[k]? = w1.heap[k]?) → ∀ i v, ∀ k, k ≠ d → (w2.setCell ⟨d, i, none⟩ v).heap[k]? = w1.heap[k]? := fun w1 w2 hh i v k hk => by
    rw [Below.heap_setCell _ _ _ _ (by simpa using hk)]; exact hh k hk
  have Hd := Lib.hid hd; clear hd
  have Hfar := Lib.hid far; clear far
  by_cases h0 : D.fuse = 0
  · rw [if_pos h0]
    have e0 : (D.fuse == 0) = true := by simpa using h0
    have H0 := Lib.hid h0; clear h0
    go_enter Try.func133, Try.ntmps133
    go_wp2
    go_ret
    refine ⟨rfl, h.turn rfl rfl rfl rfl ⟨hc, s4, s5⟩ ?_ (Hfar.out _ _ (Hfar.out _ _ (fun _ _ => rfl) _ _) _ _) (by simp only [size_set]), ((Frame.refl S w).setCell (.inl hS) _).setCell (.inl hS) _⟩
    exact blk_set (blk_set Hd.out _ _) _ _
  · rw [if_neg h0]
    have e0 : (D.fuse == 0) = false := by simpa using h0
    by_cases h1 : 0 < D.fuse
    · rw [if_pos h1]
      have H0 := Lib.hid h0; clear h0
      go_enter Try.func133, Try.ntmps133
      go_wp2
      go_ret
      refine ⟨rfl, h.turn rfl rfl rfl rfl ⟨hc, by simp only; omega, by simp only; omega⟩ ?_ (Hfar.out _ _ (Hfar.out _ _ (fun _ _ => rfl) _ _) _ _) (by simp only [size_set]), ((Frame.refl S w).setCell (.inl hS) _).setCell (.inl hS) _⟩
      exact blk_set (blk_set Hd.out _ _) _ _
    · rw [if_neg h1]
      have H0 := Lib.hid h0; clear h0
      go_enter Try.func133, Try.ntmps133
      go_wp2
      go_ret
      refine ⟨rfl, h.turn rfl rfl rfl rfl ⟨hc, s4, s5⟩ ?_ (Hfar.out _ _ (fun _ _ => rfl) _ _) (by simp only [size_set]), (Frame.refl S w).setCell (.inl hS) _⟩
      exact blk_set Hd.out _ _

/-- A fuse is laid. -/
def armD (D : DS) (f : Int) : DS := { D with fuse := max f (-1) }

set_option maxHeartbeats 400000 in
theorem Arm_any (f : Int) (hD : DiskP w d D S bk pv av H) (hf1 : f ≤ 9223372036854775807) :
    Calls Try.prog 82 #[.pointer (some ⟨d, 0, none⟩), .int .i64 f] w fun e w' => e = .returned (.tuple #[]) ∧ DiskP w' d (armD D f) S bk pv av H ∧ Frame S w w' := by
  obtain ⟨c0, c1, c2, c3, c4, c5, hf⟩ := hD.cells
  have hS := hD.ownS.1
  have Hd := Lib.hid hD.hdr
  obtain ⟨s1, s2, s3, s4, s5⟩ := hD.small
  go_enter Try.func82, Try.ntmps82
  go_wp2
  all_goals
    go_end0
    refine ⟨rfl, hD.turn rfl rfl rfl rfl ⟨s3, by unfold armD; simp only; omega, by unfold armD; simp only; omega⟩ ?_ (fun k hk => by rw [Below.heap_setCell _ _ _ _ (by simpa using hk)]) (by simp only [size_set]), (Frame.refl S w).setCell (.inl hS) _⟩
    rw [blk_set Hd.out]
    unfold armD
    first | rw [show max f (-1) = f by omega] | rw [show max f (-1) = -1 by omega]
    rfl

/-- The zero of an array of 512 bytes. -/
def blockZero : Value := .agg (Array.replicate 512 (.int .u8 0))
theorem info_block : (Try.prog.info? 175).map (fun i => (i.zero, i.size, i.bytes)) = some (some blockZero, 512, 512) := by kernel_rfl
theorem blockZero_cells : blockZero.cells = Array.replicate 512 (.int .u8 0) := rfl
theorem made_size (n : Nat) : (madeCells blockZero.cells n).size = n := size_madeCells _ _
theorem made_get (n j : Nat) (h : j < n) : (madeCells blockZero.cells n)[j]? = some (.int .u8 0) := by
  have hm : j % 512 < 512 := Nat.mod_lt _ (by omega)
  rw [blockZero_cells]
  simp [madeCells, h, getElem!_pos, hm]

def zeros : List UInt8 := List.replicate 512 0
theorem zeros_len : zeros.length = 512 := List.length_replicate
theorem zeros_get (j : Nat) (h : j < 512) : (bytesV zeros)[j]? = some (.int .u8 0) := by
  unfold bytesV zeros
  rw [List.map_replicate, List.getElem?_replicate, if_pos h]
  rfl
/-- A disk that is made. -/
def newD (n : Nat) : DS := ⟨n, fun _ => zeros, [], [], -1, 0, false⟩

set_option maxHeartbeats 400000 in
theorem New_no (n : Int) (w : World) (h : n < 1 ∨ 1024 < n) :
    Calls Try.prog 47 #[.int .i64 n] w fun e w' => e = .returned (.tuple #[.pointer none, .int .i64 2]) ∧ w = w' := by
  rcases h with h | h
  · go_enter Try.func47, Try.ntmps47
    go_wp2
    go_ret2
    exact ⟨rfl, rfl⟩
  · have h' : ¬ n < 1 := by omega
    go_enter Try.func47, Try.ntmps47
    go_wp2
    go_ret2
    exact ⟨rfl, rfl⟩

set_option maxHeartbeats 400000 in
theorem New_yes (n : Nat) (w : World) (h1 : 1 ≤ n) (h2 : n ≤ 1024) :
    Calls Try.prog 47 #[.int .i64 (n : Int)] w fun e w' => e = .returned (.tuple #[.pointer (some ⟨w.heap.size + 1, 0, none⟩), .int .i64 0]) ∧
      DiskAt w' (w.heap.size + 1) (newD n) (fun k => k = w.heap.size ∨ k = w.heap.size + 1) ∧ Below w.heap.size w w' := by
  obtain ⟨i0, hi, hiz, his, hib⟩ := info_parts info_block
  have hmk := run_make (P := Try.prog) w 168 175 i0 _ Try.underlying168 hi hiz .i64 .i64 (n : Int) (n : Int) (by omega) (by omega) (by rw [hib]; omega) (by omega)
  rw [his, Int.toNat_natCast] at hmk
  have hCs := made_size (n * 512)
  have hCg := made_get (n * 512)
  generalize madeCells blockZero.cells (n * 512) = C at hmk hCs hCg
  have HCs := Lib.hid hCs; clear hCs
  have HCg := Lib.hid hCg; clear hCg
  have hb1 : ¬ (n : Int) < 1 := by omega
  have hb2 : ¬ (1024 : Int) < n := by omega
  go_enter Try.func47, Try.ntmps47
  go_wp2
  go_ret2
  refine ⟨rfl, ⟨w.heap.size, .slice none 0 0, .slice none 0 0, [], ?_⟩, Bnew (Bbox _ _) _⟩
  have g0 : ∀ o, ((w.alloc (.cells C 175)).alloc o).heap[w.heap.size]? = some (.cells C 175 (0, 0)) := fun o => by
    rw [Below.heap_alloc _ _ _ (by simp)]; exact heap_alloc_new w _
  have g1 : ∀ o, ((w.alloc (.cells C 175)).alloc o).heap[w.heap.size + 1]? = some o := fun o => by
    have := heap_alloc_new (w.alloc (.cells C 175)) o
    simpa using this
  refine ⟨g1 _, ⟨C, g0 _, HCs.out⟩, fun p hp j v hv => ?_, fun p _ => zeros_len, World.ownsRow_nil _ _ _ _, (fun p hp => by cases hp), World.ownsRow_nil _ _ _ _, rfl, (fun x hx => by cases hx), ⟨h2, Nat.zero_le _, Nat.zero_le _, (show (-1 : Int) ≤ -1 by omega), (show (-1 : Int) ≤ 9223372036854775807 by omega)⟩,
    ⟨.inr rfl, .inl rfl, (fun k hk => by simp [Value.ownBlock] at hk), (fun k hk => by simp [Value.ownBlock] at hk)⟩, (fun k hk => by simp only [World.size_alloc]; omega)⟩
  have hj : j < 512 := by
    have := (List.getElem?_eq_some_iff.1 hv).1
    rw [bytesV_length] at this
    exact Nat.lt_of_lt_of_eq this zeros_len
  have hpn : p < n := hp
  rw [cell_of_row _ _ _ _ _ _ (g0 _), HCg.out _ (by omega), ← hv]
  exact (zeros_get j hj).symm

end
end Go.Proofs.Ytdjndeleafhglaa
