/-
  What is pending: a place and a sector's bytes, built of an array whatever its cells.
-/
import Derived.Test.YtdjndeleafhglaaDsk2
namespace Go.Proofs.Ytdjndeleafhglaa
open Go.RowKit

theorem foldl_set (off : Nat) : ∀ (vs : List Value) (k : Nat) (cs : Array Value), off + k + vs.length ≤ cs.size →
    ((vs.zipIdx k).foldl (fun cs x => cs.setIfInBounds (off + x.2) x.1) cs).toList = cs.toList.take (off + k) ++ vs ++ cs.toList.drop (off + k + vs.length)
  | [], k, cs, _ => by simp
  | v :: r, k, cs, h => by
    simp only [List.length_cons] at h
    rw [List.zipIdx_cons, List.foldl_cons, foldl_set off r (k + 1) _ (by simp; omega)]
    have hm : off + k < cs.toList.length := by simp; omega
    simp only [Array.toList_setIfInBounds]
    have e1 : (cs.toList.set (off + k) v).take (off + (k + 1)) = cs.toList.take (off + k) ++ [v] := by
      rw [show off + (k + 1) = off + k + 1 by omega, List.take_set, List.take_succ_eq_append_getElem hm, List.set_append_right _ _ (by simp; omega)]
      have : off + k - (cs.toList.take (off + k)).length = 0 := by simp; omega
      rw [this]; rfl
    have e2 : (cs.toList.set (off + k) v).drop (off + (k + 1) + r.length) = cs.toList.drop (off + k + (r.length + 1)) := by
      rw [List.drop_set_of_lt (by omega)]
      congr 1; omega
    rw [e1, e2]
    simp

def waitZero : Value := .agg (#[.int .i64 0] ++ Array.replicate 512 (.int .u8 0))
theorem info_wait : (Try.prog.info? 177).map (fun i => (i.zero, i.size, i.bytes)) = some (some waitZero, 513, 520) := by kernel_rfl

theorem zero_wait (w : World) : (zeroValue 177).run Try.prog w = .ok waitZero w := by kernel_rfl
theorem wait_cells : waitZero.cells = #[.int .i64 0] ++ Array.replicate 512 (.int .u8 0) := rfl

theorem fill_one (place : Nat → Option (Nat × Nat)) (cells : Array Value) (i off size : Nat) (v : Value) (vs : List Value) (rest : List (Nat × Value)) (hp : place i = some (off, size)) (hv : v.cells = vs.toArray) (hs : vs.length = size)
    (hb : off + size ≤ cells.size) : Instr.fill place cells ((i, v) :: rest) = Instr.fill place (cells.toList.take off ++ vs ++ cells.toList.drop (off + size)).toArray rest := by
  have key := foldl_set off vs 0 cells (by omega)
  rw [Instr.fill, hp]
  dsimp only
  rw [hv]
  have hc : (vs.toArray.size ≠ size || off + vs.toArray.size > cells.size) = false := by
    simp [hs]; omega
  simp only [hc, Bool.false_eq_true, if_false]
  congr 1
  apply Array.ext'
  rw [← Array.foldl_toList, Array.toList_zipIdx]
  rw [Nat.add_zero] at key
  rw [← hs]
  exact key

theorem fill_wait (p : Int) (V : List Value) (hV : V.length = 512) : Instr.fill (#[(0, 1), (1, 512)][·]?) waitZero.cells [(0, .int .i64 p), (1, .agg V.toArray)] = some (.int .i64 p :: V).toArray := by
  have hc : waitZero.cells.toList = .int .i64 0 :: List.replicate 512 (.int .u8 0) := by rw [wait_cells]; simp only [Array.toList_append, Array.toList_replicate, List.cons_append, List.nil_append]
  have hs : waitZero.cells.size = 513 := by rw [← Array.length_toList, hc, List.length_cons, List.length_replicate]
  rw [fill_one _ _ 0 0 1 _ [.int .i64 p] _ rfl rfl rfl (by omega), hc]
  rw [fill_one _ _ 1 1 512 _ V _ rfl rfl hV (by simp only [List.take_zero, List.nil_append, List.drop_succ_cons, List.drop_zero, List.cons_append, List.size_toArray, List.length_cons, List.length_replicate]; omega)]
  simp only [List.take_zero, List.nil_append, List.drop_succ_cons, List.drop_zero, List.cons_append, List.take_succ_cons, Nat.zero_add, Nat.add_comm 1 512]
  rw [List.drop_of_length_le (by rw [List.length_replicate]; omega), List.append_nil]
  rfl

/-- Where a struct's fields stand. -/
def placesOf (fs : Array Field) : Sem (Array (Nat × Nat)) := fs.mapM fun f => do pure (f.offset, ← sizeOf f.type)
theorem places_wait : ∃ fs, Try.prog.underlying 177 = some (.struct fs) ∧ ∀ w, (placesOf fs).run Try.prog w = .ok #[(0, 1), (1, 512)] w := ⟨_, Try.underlying177, fun w => by kernel_rfl⟩

theorem run_build_wait (p : Int) (V : List Value) (hV : V.length = 512) (w : World) :
    (Instr.build 177 #[(0, .int .i64 p), (1, .agg V.toArray)]).run Try.prog w = .ok (.agg (.int .i64 p :: V).toArray) w := by
  obtain ⟨fs, hu, hpl⟩ := places_wait
  have hz := zero_wait w
  have hp := hpl w
  unfold placesOf at hp
  unfold Instr.build
  rw [Sem.run_bind, hz, Result.andThen_ok, Sem.run_bind, run_underlying hu, Result.andThen_ok]
  dsimp only
  rw [Sem.run_bind, hp, Result.andThen_ok]
  have hf := fill_wait p V hV
  rw [hf]
  rfl

end Go.Proofs.Ytdjndeleafhglaa
