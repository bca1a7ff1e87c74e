/-
  The walks of disk.Put, disk.Kept.
-/
import Derived.Test.YtdjndeleafhglaaDsk4
namespace Go.Proofs.Ytdjndeleafhglaa
open Go.RowKit

theorem setCells_alloc_go (w : World) (t : TypeId) (vs : List Value) : ∀ (o : Nat) (C : Array Value),
    (w.alloc (.cells C t)).setCells w.heap.size o vs = w.alloc (.cells ((vs.zipIdx o).foldl (fun cs x => cs.setIfInBounds x.2 x.1) C) t) := by
  induction vs with
  | nil => intro o C; rfl
  | cons v r ih =>
    intro o C
    rw [World.setCells, World.setCell_alloc_new, ih]
    rfl
/-- A fresh block is written whole. -/
theorem setCells_alloc (w : World) (t : TypeId) (vs : List Value) (C : Array Value) (h : C.size = vs.length) : (w.alloc (.cells C t)).setCells w.heap.size 0 vs = w.alloc (.cells vs.toArray t) := by
  rw [setCells_alloc_go]
  congr 2
  have key := foldl_set 0 vs 0 C (by omega)
  simp only [Nat.zero_add, List.take_zero, List.nil_append] at key
  rw [List.drop_of_length_le (by rw [Array.length_toList]; omega), List.append_nil] at key
  exact Array.ext' key

/-- The store onto a fresh block, whole. -/
theorem run_storeCells_fresh {P : Program} (w : World) (t : TypeId) (V : List Value) (C : Array Value) (hC : C.size = V.length) (h1 : ∀ v ∈ V, v.oneCell' = true) :
    (storeCells ⟨w.heap.size, 0, none⟩ V).run P (w.alloc (.cells C t)) = .ok () (w.alloc (.cells V.toArray t)) := by
  have hth := there_of (heap_alloc_new w (.cells C t)) (o := 0) (n := V.length) (by omega)
  have h := run_storeCells_cells (P := P) w.heap.size 0 V 0 (w.alloc (.cells C t)) (fun j hj => by simpa using (hth j hj).1) (fun j hj => by simp) h1
  rw [setCells_alloc w t V C hC] at h
  exact h
theorem zero_block_size : Try.zeroCells175.size = 512 := by kernel_rfl
theorem zero_wait_size : Try.zeroCells177.size = 513 := by kernel_rfl

section
variable {w : World} {d : Nat} {D : DS} {S : Nat → Prop} {bk : Nat} {pv av : Value} {H : List (Nat × List UInt8 × Nat)}

theorem asked_nil (p : Int) (w : World) :
    Calls Try.prog 131 #[.pointer none, .int .i64 p] w fun e w' => e = .returned (.int .i64 1) ∧ w = w' := by
  go_enter Try.func131, Try.ntmps131
  go_wp2_with fail
  go_ret
  exact ⟨rfl, rfl⟩

set_option maxRecDepth 100000 in
theorem Put_range (p : Int) (A : Option Addr) (n c : Nat) (h : DiskP w d D S bk pv av H) (hp : p < 0 ∨ (D.n : Int) ≤ p) :
    Calls Try.prog 48 #[.pointer (some ⟨d, 0, none⟩), .int .i64 p, .slice A n c] w fun e w' => e = .returned (.int .i64 2) ∧ w = w' := by
  have ha : askedD D p = 2 := by unfold askedD; rw [if_pos hp]
  go_enter Try.func48, Try.ntmps48
  go_wp2_with fail
  refine (asked_any _ h).mono ?_; rintro e w1 ⟨rfl, rfl⟩
  go_wp2
  go_ret
  exact ⟨rfl, rfl⟩

set_option maxRecDepth 100000 in
theorem Put_form (p : Int) (A : Option Addr) (n c : Nat) (h : DiskP w d D S bk pv av H) (hp : ¬ (p < 0 ∨ (D.n : Int) ≤ p)) (hn : n ≠ 512) :
    Calls Try.prog 48 #[.pointer (some ⟨d, 0, none⟩), .int .i64 p, .slice A n c] w fun e w' => e = .returned (.int .i64 4) ∧ w = w' := by
  have ha : askedD D p = 0 := by unfold askedD; rw [if_neg hp]
  have hnb : ((n : Int) != 512) = true := by simp; omega
  go_enter Try.func48, Try.ntmps48
  go_wp2_with fail
  refine (asked_any _ h).mono ?_; rintro e w1 ⟨rfl, rfl⟩
  go_wp2
  go_ret
  exact ⟨rfl, rfl⟩

set_option maxRecDepth 100000 in
set_option maxHeartbeats 1000000 in
theorem Put_yes (p : Nat) (g o c : Nat) (b : List UInt8) (h : DiskP w d D S bk pv av H) (hp : p < D.n) (hb : b.length = 512) (hr : w.rangeAt g o (bytesV b))
    (hsm : D.pend.length + D.hist.length + 1 ≤ 1000000) :
    Calls Try.prog 48 #[.pointer (some ⟨d, 0, none⟩), .int .i64 (p : Int), .slice (some ⟨g, o, none⟩) 512 c] w fun e w' =>
      e = .returned (.int .i64 0) ∧ ∃ S' av' H', DiskP w' d (keepD D p b) S' bk pv av' H' ∧ Frame S w w' ∧ ∀ k, S' k → S k ∨ w.heap.size ≤ k := by
  have ha : askedD D p = 0 := by unfold askedD; rw [if_neg (by omega)]
  have hlen : (bytesV b).length = 512 := by rw [bytesV_length, hb]
  have hszV : (Try.prog.info? 175).map (·.size) = some (bytesV b).length := by rw [hlen]; exact size_block
  have harr : ∀ w', (Instr.arrayAt 175 (.slice (some ⟨g, o, none⟩) 512 c)).run Try.prog w' = .ok (.pointer (some ⟨g, o, none⟩)) w' := fun _ => by kernel_rfl
  have Hb := Lib.hid hb; clear hb
  have Hr := Lib.hid hr; clear hr
  have HszV := Lib.hid hszV; clear hszV
  have Hlen := Lib.hid hlen; clear hlen
  have hk := keep_any p b h hp Hb.out hsm
  generalize hV : bytesV b = V at hk Hr HszV Hlen
  have HV := Lib.hid hV; clear hV
  have Hk := Lib.hid hk; clear hk
  go_enter Try.func48, Try.ntmps48
  go_wp2_with fail
  refine (asked_any _ h).mono ?_; rintro e w1 ⟨rfl, rfl⟩
  go_wp2_with fail
  refine wp_load_mid 175 _ rfl g o rfl V _ Hr.out Try.underlying175 rfl HszV.out ?_
  go_wp2_with fail
  refine Hk.out.mono ?_
  rintro e w1 ⟨rfl, S', av', H', h3, hf3, hS3⟩
  go_wp2
  go_ret
  exact ⟨rfl, S', av', H', h3, hf3, hS3⟩

/-- What has come to be kept at a place, as a slice of its own. -/
theorem zero_block (w : World) : (zeroValue 175).run Try.prog w = .ok blockZero w := by kernel_rfl
set_option maxRecDepth 100000 in
theorem Kept_nil (p : Int) (w : World) :
    Calls Try.prog 55 #[.pointer none, .int .i64 p] w fun e w' => e = .returned (.slice none 0 0) ∧ w = w' := by
  go_enter Try.func55, Try.ntmps55
  go_wp2_with fail
  refine (asked_nil _ _).mono ?_; rintro e w1 ⟨rfl, rfl⟩
  go_wp2
  go_ret
  exact ⟨rfl, rfl⟩
set_option maxRecDepth 100000 in
theorem Kept_range (p : Int) (h : DiskP w d D S bk pv av H) (hp : p < 0 ∨ (D.n : Int) ≤ p) :
    Calls Try.prog 55 #[.pointer (some ⟨d, 0, none⟩), .int .i64 p] w fun e w' => e = .returned (.slice none 0 0) ∧ w = w' := by
  have ha : askedD D p = 2 := by unfold askedD; rw [if_pos hp]
  go_enter Try.func55, Try.ntmps55
  go_wp2_with fail
  refine (asked_any _ h).mono ?_; rintro e w1 ⟨rfl, rfl⟩
  go_wp2
  go_ret
  exact ⟨rfl, rfl⟩

set_option maxRecDepth 100000 in
set_option maxHeartbeats 1000000 in
theorem Kept_yes (p : Nat) (h : DiskP w d D S bk pv av H) (hp : p < D.n) :
    Calls Try.prog 55 #[.pointer (some ⟨d, 0, none⟩), .int .i64 (p : Int)] w fun e w' =>
      e = .returned (.slice (some ⟨w.heap.size, 0, none⟩) 512 512) ∧ w'.heap[w.heap.size]? = some (.cells (bytesV (D.kept p)).toArray 175 (0, 0)) ∧ Below w.heap.size w w' := by
  have ha : askedD D p = 0 := by unfold askedD; rw [if_neg (by omega)]
  have hlen : (bytesV (D.kept p)).length = 512 := by rw [bytesV_length, h.klen p hp]
  have hszV : (Try.prog.info? 175).map (·.size) = some (bytesV (D.kept p)).length := by rw [hlen]; exact size_block
  have hr := h.kept p hp
  have hone := bytesV_one (D.kept p)
  have hpn : (p : Int) < (D.n : Int) := by omega
  obtain ⟨c0, c1, c2, c3, c4, c5, hf⟩ := h.cells
  have Hr := Lib.hid hr; clear hr
  have HszV := Lib.hid hszV; clear hszV
  have Hlen := Lib.hid hlen; clear hlen
  have Hone := Lib.hid hone; clear hone
  generalize hV : bytesV (D.kept p) = V at Hr HszV Hlen Hone
  have HV := Lib.hid hV; clear hV
  go_enter Try.func55, Try.ntmps55
  go_wp2_with fail
  refine (asked_any _ h).mono ?_; rintro e w1 ⟨rfl, rfl⟩
  go_wp2_with fail
  refine wp_load_mid 175 _ rfl bk (p * 512) rfl V _ Hr.out Try.underlying175 rfl HszV.out ?_
  go_wp2_with fail
  rw [run_storeCells_fresh w _ V _ (by rw [Hlen.out]; exact zero_block_size) Hone.out]
  go_wp2
  go_ret
  exact ⟨rfl, heap_alloc_new w _, Bbox _ _⟩

end
end Go.Proofs.Ytdjndeleafhglaa
