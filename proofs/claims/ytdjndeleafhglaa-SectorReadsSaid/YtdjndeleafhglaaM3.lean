/-
  The walk of sector.Decode, where the bytes are some.
  Small functions of the law of sectors, and its example.
  The walk of the law SectorBytes.
  Facts on the program's head that every statement's row asks, proved apart: the kernel would not hold them at once.
  What comes in, opened: bytes, and sectors by value.
  A region that draws its order, of which two operations with effects may come up in either order: a tree of orders. No program stands here.
  The walk of the document's sector of bytes.
  The walk of the law SectorReads.
-/
import Derived.Test.YtdjndeleafhglaaM2
import Derived.Test.YtdjndeleafhglaaRows
import Derived.ProofKit
import Derived.OpenShut
import Derived.ChangeSlices
import Derived.WideShapes
import Derived.Lib.SmallJoins
import Derived.Test.YtdjndeleafhglaaM1
namespace Go.Proofs.Ytdjndeleafhglaa
open Go.RowKit

section
variable {w : World} {u : Nat} {K : SU} {S : Nat → Prop}
set_option maxRecDepth 100000 in
set_option maxHeartbeats 2000000 in
theorem Decode_right (p : Int) (g o d : Nat) (l : List UInt8) (x : Sec) (hb : BytesAt w (some ⟨g, o, none⟩) 512 l) (hd : 487 ≤ d) (hl : l ≠ blankS) (hr : readS l = some x) (hri : rightS p x ≠ 0) :
    Calls Try.prog 58 #[.pointer (some ⟨u, 0, none⟩), .int .i64 p, .slice (some ⟨g, o, none⟩) 512 (d + 25)] w fun e w' => DecPost (11, secZero) w e w' := by
  have hdb : decide (l = blankS) = false := by simpa using hl
  have hd1 : (504 : Int) ≤ (d : Int) + 25 := by omega
  have hd2 : ¬ (d + 25 = 504) := by omega
  have hd3 : ¬ (d = 479) := by omega
  have hri0 : (rightS p x != 0) = true := by simpa using hri
  generalize hrs : rightS p x = rr at hri hri0
  have Hright : Hid (∀ (A : Option Addr) (c : Nat) W, Calls Try.prog 139 #[.int .i64 p, secV x A c] W fun e w' => e = .returned (.int .i64 rr) ∧ Below W.heap.size W w') := Lib.hid fun A c W => by rw [← hrs]; exact right_any p x A c W
  clear hrs hri
  have Hb := Lib.hid hb; clear hb
  have Hr := Lib.hid hr; clear hr hl
  go_enter Try.func58, Try.ntmps58
  go_wp2_with fail
  refine (none_any _ _).mono ?_; rintro e w1 ⟨rfl, rfl⟩
  go_wp2_with fail
  refine (IsBlank_any (some ⟨g, o, none⟩) 512 (d + 25) l _ (Hb.out.below (Bbox _ _)) (by omega) (by decide)).mono ?_
  rintro e w1 ⟨rfl, hb1⟩
  rw [World.size_alloc] at hb1
  have hx := zero_cells hb1
  have hB1 : Below w.heap.size w w1 := (Bbox w _).trans (hb1.mono (Nat.le_succ _))
  go_wp2_with fail
  refine (read_any g o d l w1 (Hb.out.below hB1) hd).mono ?_
  rintro e w2 hp
  rcases hp with ⟨hs, _⟩ | ⟨x', A, c', hs, rfl, hown2, hb2⟩
  case inl => rw [Hr.out] at hs; cases hs
  obtain rfl : x = x' := Option.some.inj (Hr.out.symm.trans hs)
  have hx2 := (hb2.block _ (blk_lt hx)).trans hx
  have hB2 := Bthen hB1 hb2
  have hz1 := hB1.size
  have hz1' := blk_lt hx
  obtain ⟨xk, xl, xq, xg, xb⟩ := x
  have Hright := Lib.hid Hright.out
  unfold secV at Hright
  unfold secV
  simp only at hown2
  simp only
  go_wp2_with fail
  have hx3 := (Below.heap_alloc w2 (.cells #[.int .i64 xk, .int .u64 (xl : Int), .int .i64 xq, .int .u64 (xg : Int), .slice A xb.length c'] 54) _ (blk_lt hx2)).trans hx2
  have hy3 := heap_alloc_new w2 (.cells #[.int .i64 xk, .int .u64 (xl : Int), .int .i64 xq, .int .u64 (xg : Int), .slice A xb.length c'] 54)
  have hb3 : Below w2.heap.size w2 (w2.alloc (.cells #[.int .i64 xk, .int .u64 (xl : Int), .int .i64 xq, .int .u64 (xg : Int), .slice A xb.length c'] 54)) := Bbox _ _
  generalize w2.alloc (.cells #[.int .i64 xk, .int .u64 (xl : Int), .int .i64 xq, .int .u64 (xg : Int), .slice A xb.length c'] 54) = w3 at hx3 hy3 hb3 ⊢
  have hB3 := Bthen hB2 hb3
  have hown3 := own_below hown2 hb3
  have hbody := BytesAt.own hown3
  have hbytes := Hb.out.below hB3
  clear hx hx2 hb1 hb2 hown2 hs
  have hbox := box_facts hy3
  have hbox0 := fun x => (hbox x).1
  have hbox1 := fun x => (hbox x).2.1
  have hbox2 := fun x => (hbox x).2.2.1
  have hbox3 := fun x => (hbox x).2.2.2.1
  have hbox4 := fun x => (hbox x).2.2.2.2
  have Hown3 := Lib.hid hown3
  have Hbody := Lib.hid hbody
  have Hbytes := Lib.hid hbytes
  clear hbox hown3 hbody hbytes
  refine wp_region_in (BelowW w3) [(0, true), (1, true), (2, true), (3, true), (4, true), (5, false), (6, true), (7, true), (8, true), (9, true), (10, true), (12, true), (13, true), (11, false), (14, false), (15, true), (16, true), (17, true), (18, true), (19, true), (20, true), (21, true), (22, true), (23, false), (24, true), (25, true)] (by kernel_rfl) (by kernel_rfl) (fun _ _ _ _ _ h => h) (inB_drew _) (fun hne => ?_)
  simp only [permOps, List.map_cons, List.map_nil, List.getD_cons_zero, List.getD_cons_succ]
  (repeat ((with_reducible refine wpPerm_F ?_); intro K hK; go_simp; refine hK _ _ ?_; clear hK K))
  (with_reducible refine wpPerm_G ?_); intro K K' hK hK'; go_simp
  refine (Hright.out A c' _).mono ?_
  rintro e y1 ⟨rfl, hy1⟩
  have hW1 : Below w3.heap.size w3 y1 := Bthen (Bdrew (Bnil w3)) hy1
  (refine hK _ _ ?_; clear hK hK' K K')
  refine ⟨inB_more hW1, ?_⟩
  (repeat ((with_reducible refine wpPerm_F ?_); intro K hK; go_simp; refine hK _ _ ?_; clear hK K))
  (with_reducible refine wpPerm_G ?_); intro K K' hK hK'; go_simp
  (refine hK' _ _ ?_; clear hK hK' K K')
  (repeat ((with_reducible refine wpPerm_F ?_); intro K hK; go_simp; refine hK _ _ ?_; clear hK K))
  (with_reducible refine wpPerm_G ?_); intro K K' hK hK'; go_simp
  (refine hK' _ _ ?_; clear hK hK' K K')
  (repeat ((with_reducible refine wpPerm_F ?_); intro K hK; go_simp; refine hK _ _ ?_; clear hK K))
  (with_reducible refine wpPerm_G ?_); intro K K' hK hK'; go_simp
  (refine hK' _ _ ?_; clear hK hK' K K')
  (repeat ((with_reducible refine wpPerm_F ?_); intro K hK; go_simp; refine hK _ _ ?_; clear hK K))
  refine wpPerm_nil ?_
  have hX := (hW1.block _ (blk_lt hx3)).trans hx3
  have hBf := hB3.trans (hW1.mono hB3.size)
  obtain ⟨z0, z1, z2, z3, z4, zf⟩ := cells5 hX
  clear hbox0 hbox1 hbox2 hbox3 hbox4
  go_wp2_with fail
  obtain ⟨V, hV, hXs, hFs⟩ := five_set hX (.int .i64 0) (.int .u64 0) (.int .i64 0) (.int .u64 0) (.slice none 0 0)
  rw [hV]
  obtain ⟨y0, y1', y2', y3', y4', yf⟩ := cells5 hXs
  refine bodyPost_ret (v := .tuple #[.agg #[.int .i64 0, .int .u64 0, .int .i64 0, .int .u64 0, .slice none 0 0], .int .i64 11]) ?_ rfl (DecPost.zero (hBf.trans (hFs.own (Nat.le_refl _) hBf.size)))
  simp [results, Try.results58, go_sem, y0, y1', y2', y3', y4']

set_option maxRecDepth 100000 in
set_option maxHeartbeats 2000000 in
theorem Decode_text (p : Int) (g o d : Nat) (l : List UInt8) (x : Sec) (hb : BytesAt w (some ⟨g, o, none⟩) 512 l) (hd : 487 ≤ d) (hl : l ≠ blankS) (hr : readS l = some x) (hri : rightS p x = 0) (hsm : textS p x ≠ l.take 504) :
    Calls Try.prog 58 #[.pointer (some ⟨u, 0, none⟩), .int .i64 p, .slice (some ⟨g, o, none⟩) 512 (d + 25)] w fun e w' => DecPost (11, secZero) w e w' := by
  have hdb : decide (l = blankS) = false := by simpa using hl
  have hd1 : (504 : Int) ≤ (d : Int) + 25 := by omega
  have hd2 : ¬ (d + 25 = 504) := by omega
  have hd3 : ¬ (d = 479) := by omega
  have Hright : Hid (∀ (A : Option Addr) (c : Nat) W, Calls Try.prog 139 #[.int .i64 p, secV x A c] W fun e w' => e = .returned (.int .i64 0) ∧ Below W.heap.size W w') := Lib.hid fun A c W => by rw [← hri]; exact right_any p x A c W
  have Hwr : Hid (∀ (A : Option Addr) (c : Nat) W, BytesAt W A x.body.length x.body → Calls Try.prog 141 #[.int .i64 p, secV x A c] W fun e w' => ∃ g', e = .returned (.slice (some ⟨g', 0, none⟩) 504 504) ∧
      w'.ownsRow W.heap.size 5 1 (.slice (some ⟨g', 0, none⟩) 504 504) 504 (bytesV (textS p x)) ∧ Below W.heap.size W w') := Lib.hid fun A c W hb => written_all p x A c W hri hb
  clear hri
  have Hsm : Hid (decide (textS p x = l.take 504) = false) := Lib.hid (by simpa using hsm)
  clear hsm
  have Hb := Lib.hid hb; clear hb
  have Hr := Lib.hid hr; clear hr hl
  go_enter Try.func58, Try.ntmps58
  go_wp2_with fail
  refine (none_any _ _).mono ?_; rintro e w1 ⟨rfl, rfl⟩
  go_wp2_with fail
  refine (IsBlank_any (some ⟨g, o, none⟩) 512 (d + 25) l _ (Hb.out.below (Bbox _ _)) (by omega) (by decide)).mono ?_
  rintro e w1 ⟨rfl, hb1⟩
  rw [World.size_alloc] at hb1
  have hx := zero_cells hb1
  have hB1 : Below w.heap.size w w1 := (Bbox w _).trans (hb1.mono (Nat.le_succ _))
  go_wp2_with fail
  refine (read_any g o d l w1 (Hb.out.below hB1) hd).mono ?_
  rintro e w2 hp
  rcases hp with ⟨hs, _⟩ | ⟨x', A, c', hs, rfl, hown2, hb2⟩
  case inl => rw [Hr.out] at hs; cases hs
  obtain rfl : x = x' := Option.some.inj (Hr.out.symm.trans hs)
  have hx2 := (hb2.block _ (blk_lt hx)).trans hx
  have hB2 := Bthen hB1 hb2
  have hz1 := hB1.size
  have hz1' := blk_lt hx
  obtain ⟨xk, xl, xq, xg, xb⟩ := x
  have Hright := Lib.hid Hright.out
  unfold secV at Hright Hwr
  unfold secV
  simp only at hown2
  simp only
  go_wp2_with fail
  have hx3 := (Below.heap_alloc w2 (.cells #[.int .i64 xk, .int .u64 (xl : Int), .int .i64 xq, .int .u64 (xg : Int), .slice A xb.length c'] 54) _ (blk_lt hx2)).trans hx2
  have hy3 := heap_alloc_new w2 (.cells #[.int .i64 xk, .int .u64 (xl : Int), .int .i64 xq, .int .u64 (xg : Int), .slice A xb.length c'] 54)
  have hb3 : Below w2.heap.size w2 (w2.alloc (.cells #[.int .i64 xk, .int .u64 (xl : Int), .int .i64 xq, .int .u64 (xg : Int), .slice A xb.length c'] 54)) := Bbox _ _
  generalize w2.alloc (.cells #[.int .i64 xk, .int .u64 (xl : Int), .int .i64 xq, .int .u64 (xg : Int), .slice A xb.length c'] 54) = w3 at hx3 hy3 hb3 ⊢
  have hB3 := Bthen hB2 hb3
  have hown3 := own_below hown2 hb3
  have hbody := BytesAt.own hown3
  have hbytes := Hb.out.below hB3
  clear hx hx2 hb1 hb2 hown2 hs
  have hbox := box_facts hy3
  have hbox0 := fun x => (hbox x).1
  have hbox1 := fun x => (hbox x).2.1
  have hbox2 := fun x => (hbox x).2.2.1
  have hbox3 := fun x => (hbox x).2.2.2.1
  have hbox4 := fun x => (hbox x).2.2.2.2
  have Hown3 := Lib.hid hown3
  have Hbody := Lib.hid hbody
  have Hbytes := Lib.hid hbytes
  clear hbox hown3 hbody hbytes
  refine wp_region_in (BelowW w3) [(0, true), (1, true), (2, true), (3, true), (4, true), (5, false), (6, true), (7, true), (8, true), (9, true), (10, true), (12, true), (13, true), (11, false), (14, false), (15, true), (16, true), (17, true), (18, true), (19, true), (20, true), (21, true), (22, true), (23, false), (24, true), (25, true)] (by kernel_rfl) (by kernel_rfl) (fun _ _ _ _ _ h => h) (inB_drew _) (fun hne => ?_)
  simp only [permOps, List.map_cons, List.map_nil, List.getD_cons_zero, List.getD_cons_succ]
  (repeat ((with_reducible refine wpPerm_F ?_); intro K hK; go_simp; refine hK _ _ ?_; clear hK K))
  (with_reducible refine wpPerm_G ?_); intro K K' hK hK'; go_simp
  refine (Hright.out A c' _).mono ?_
  rintro e y1 ⟨rfl, hy1⟩
  have hW1 : Below w3.heap.size w3 y1 := Bthen (Bdrew (Bnil w3)) hy1
  (refine hK _ _ ?_; clear hK hK' K K')
  refine ⟨inB_more hW1, ?_⟩
  (repeat ((with_reducible refine wpPerm_F ?_); intro K hK; go_simp; refine hK _ _ ?_; clear hK K))
  (with_reducible refine wpPerm_G ?_); intro K K' hK hK'; go_simp
  refine (Hwr.out A c' _ (Hbody.out.below hW1)).mono ?_
  rintro e y2 ⟨g2, rfl, hownT, hy2⟩
  have hW2 : Below w3.heap.size w3 y2 := Bthen hW1 hy2
  have HBT := Lib.hid (BytesAt.own hownT); clear hownT
  have Hb504 := Lib.hid (bytes_part (Hbytes.out.below hW2) 0 504 (by decide))
  (refine hK _ _ ?_; clear hK hK' K K')
  refine ⟨inB_more hW2, ?_⟩
  (repeat ((with_reducible refine wpPerm_F ?_); intro K hK; go_simp; refine hK _ _ ?_; clear hK K))
  (with_reducible refine wpPerm_G ?_); intro K K' hK hK'; go_simp
  refine (NSame_any (some ⟨g2, 0, none⟩) (some ⟨g, o, none⟩) 504 504 504 (d + 25) _ _ y2 HBT.out (by decide) Hb504.out (by omega) (by decide) (by decide)).mono ?_
  rintro e y3 ⟨rfl, hy3'⟩
  have hW3 : Below w3.heap.size w3 y3 := Bthen hW2 hy3'
  rw [List.drop_zero, Hsm.out]
  (refine hK _ _ ?_; clear hK hK' K K')
  refine ⟨inB_more hW3, ?_⟩
  (repeat ((with_reducible refine wpPerm_F ?_); intro K hK; go_simp; refine hK _ _ ?_; clear hK K))
  (with_reducible refine wpPerm_G ?_); intro K K' hK hK'; go_simp
  (refine hK' _ _ ?_; clear hK hK' K K')
  (repeat ((with_reducible refine wpPerm_F ?_); intro K hK; go_simp; refine hK _ _ ?_; clear hK K))
  refine wpPerm_nil ?_
  have hX := (hW3.block _ (blk_lt hx3)).trans hx3
  have hBf := hB3.trans (hW3.mono hB3.size)
  obtain ⟨z0, z1, z2, z3, z4, zf⟩ := cells5 hX
  clear hbox0 hbox1 hbox2 hbox3 hbox4
  go_wp2_with fail
  obtain ⟨V, hV, hXs, hFs⟩ := five_set hX (.int .i64 0) (.int .u64 0) (.int .i64 0) (.int .u64 0) (.slice none 0 0)
  rw [hV]
  obtain ⟨y0, y1', y2', y3', y4', yf⟩ := cells5 hXs
  refine bodyPost_ret (v := .tuple #[.agg #[.int .i64 0, .int .u64 0, .int .i64 0, .int .u64 0, .slice none 0 0], .int .i64 11]) ?_ rfl (DecPost.zero (hBf.trans (hFs.own (Nat.le_refl _) hBf.size)))
  simp [results, Try.results58, go_sem, y0, y1', y2', y3', y4']

set_option maxRecDepth 100000 in
set_option maxHeartbeats 2000000 in
theorem Decode_sum (p : Int) (g o d : Nat) (l : List UInt8) (x : Sec) (hK : SuitP w u K S) (hb : BytesAt w (some ⟨g, o, none⟩) 512 l) (hd : 487 ≤ d) (hl : l ≠ blankS) (hr : readS l = some x) (hri : rightS p x = 0) (hsm : textS p x = l.take 504) (hck : checkK K (l.take 504) (l.drop 504) = false) :
    Calls Try.prog 58 #[.pointer (some ⟨u, 0, none⟩), .int .i64 p, .slice (some ⟨g, o, none⟩) 512 (d + 25)] w fun e w' => DecPost (11, secZero) w e w' := by
  have hdb : decide (l = blankS) = false := by simpa using hl
  have hd1 : (504 : Int) ≤ (d : Int) + 25 := by omega
  have hd2 : ¬ (d + 25 = 504) := by omega
  have hd3 : ¬ (d = 479) := by omega
  have Hright : Hid (∀ (A : Option Addr) (c : Nat) W, Calls Try.prog 139 #[.int .i64 p, secV x A c] W fun e w' => e = .returned (.int .i64 0) ∧ Below W.heap.size W w') := Lib.hid fun A c W => by rw [← hri]; exact right_any p x A c W
  have Hwr : Hid (∀ (A : Option Addr) (c : Nat) W, BytesAt W A x.body.length x.body → Calls Try.prog 141 #[.int .i64 p, secV x A c] W fun e w' => ∃ g', e = .returned (.slice (some ⟨g', 0, none⟩) 504 504) ∧
      w'.ownsRow W.heap.size 5 1 (.slice (some ⟨g', 0, none⟩) 504 504) 504 (bytesV (textS p x)) ∧ Below W.heap.size W w') := Lib.hid fun A c W hb => written_all p x A c W hri hb
  clear hri
  have Hsm : Hid (decide (textS p x = l.take 504) = true) := Lib.hid (by simpa using hsm)
  clear hsm
  have Hck : Hid (checkK K (l.take 504) (l.drop 504) = false) := Lib.hid (by exact hck)
  have Hl8 : Hid ((l.drop 504).length ≤ 8) := Lib.hid (by rw [List.length_drop, hb.len]; decide)
  clear hck
  have Hb := Lib.hid hb; clear hb
  have Hr := Lib.hid hr; clear hr hl
  go_enter Try.func58, Try.ntmps58
  go_wp2_with fail
  refine (none_any _ _).mono ?_; rintro e w1 ⟨rfl, rfl⟩
  go_wp2_with fail
  refine (IsBlank_any (some ⟨g, o, none⟩) 512 (d + 25) l _ (Hb.out.below (Bbox _ _)) (by omega) (by decide)).mono ?_
  rintro e w1 ⟨rfl, hb1⟩
  rw [World.size_alloc] at hb1
  have hx := zero_cells hb1
  have hB1 : Below w.heap.size w w1 := (Bbox w _).trans (hb1.mono (Nat.le_succ _))
  go_wp2_with fail
  refine (read_any g o d l w1 (Hb.out.below hB1) hd).mono ?_
  rintro e w2 hp
  rcases hp with ⟨hs, _⟩ | ⟨x', A, c', hs, rfl, hown2, hb2⟩
  case inl => rw [Hr.out] at hs; cases hs
  obtain rfl : x = x' := Option.some.inj (Hr.out.symm.trans hs)
  have hx2 := (hb2.block _ (blk_lt hx)).trans hx
  have hB2 := Bthen hB1 hb2
  have hz1 := hB1.size
  have hz1' := blk_lt hx
  obtain ⟨xk, xl, xq, xg, xb⟩ := x
  have Hright := Lib.hid Hright.out
  unfold secV at Hright Hwr
  unfold secV
  simp only at hown2
  simp only
  go_wp2_with fail
  have hx3 := (Below.heap_alloc w2 (.cells #[.int .i64 xk, .int .u64 (xl : Int), .int .i64 xq, .int .u64 (xg : Int), .slice A xb.length c'] 54) _ (blk_lt hx2)).trans hx2
  have hy3 := heap_alloc_new w2 (.cells #[.int .i64 xk, .int .u64 (xl : Int), .int .i64 xq, .int .u64 (xg : Int), .slice A xb.length c'] 54)
  have hb3 : Below w2.heap.size w2 (w2.alloc (.cells #[.int .i64 xk, .int .u64 (xl : Int), .int .i64 xq, .int .u64 (xg : Int), .slice A xb.length c'] 54)) := Bbox _ _
  generalize w2.alloc (.cells #[.int .i64 xk, .int .u64 (xl : Int), .int .i64 xq, .int .u64 (xg : Int), .slice A xb.length c'] 54) = w3 at hx3 hy3 hb3 ⊢
  have hB3 := Bthen hB2 hb3
  have hown3 := own_below hown2 hb3
  have hbody := BytesAt.own hown3
  have hbytes := Hb.out.below hB3
  clear hx hx2 hb1 hb2 hown2 hs
  have hbox := box_facts hy3
  have hbox0 := fun x => (hbox x).1
  have hbox1 := fun x => (hbox x).2.1
  have hbox2 := fun x => (hbox x).2.2.1
  have hbox3 := fun x => (hbox x).2.2.2.1
  have hbox4 := fun x => (hbox x).2.2.2.2
  have Hown3 := Lib.hid hown3
  have Hbody := Lib.hid hbody
  have Hbytes := Lib.hid hbytes
  clear hbox hown3 hbody hbytes
  refine wp_region_in (BelowW w3) [(0, true), (1, true), (2, true), (3, true), (4, true), (5, false), (6, true), (7, true), (8, true), (9, true), (10, true), (12, true), (13, true), (11, false), (14, false), (15, true), (16, true), (17, true), (18, true), (19, true), (20, true), (21, true), (22, true), (23, false), (24, true), (25, true)] (by kernel_rfl) (by kernel_rfl) (fun _ _ _ _ _ h => h) (inB_drew _) (fun hne => ?_)
  simp only [permOps, List.map_cons, List.map_nil, List.getD_cons_zero, List.getD_cons_succ]
  (repeat ((with_reducible refine wpPerm_F ?_); intro K hK; go_simp; refine hK _ _ ?_; clear hK K))
  (with_reducible refine wpPerm_G ?_); intro K K' hK hK'; go_simp
  refine (Hright.out A c' _).mono ?_
  rintro e y1 ⟨rfl, hy1⟩
  have hW1 : Below w3.heap.size w3 y1 := Bthen (Bdrew (Bnil w3)) hy1
  (refine hK _ _ ?_; clear hK hK' K K')
  refine ⟨inB_more hW1, ?_⟩
  (repeat ((with_reducible refine wpPerm_F ?_); intro K hK; go_simp; refine hK _ _ ?_; clear hK K))
  (with_reducible refine wpPerm_G ?_); intro K K' hK hK'; go_simp
  refine (Hwr.out A c' _ (Hbody.out.below hW1)).mono ?_
  rintro e y2 ⟨g2, rfl, hownT, hy2⟩
  have hW2 : Below w3.heap.size w3 y2 := Bthen hW1 hy2
  have HBT := Lib.hid (BytesAt.own hownT); clear hownT
  have Hb504 := Lib.hid (bytes_part (Hbytes.out.below hW2) 0 504 (by decide))
  (refine hK _ _ ?_; clear hK hK' K K')
  refine ⟨inB_more hW2, ?_⟩
  (repeat ((with_reducible refine wpPerm_F ?_); intro K hK; go_simp; refine hK _ _ ?_; clear hK K))
  (with_reducible refine wpPerm_G ?_); intro K K' hK hK'; go_simp
  refine (NSame_any (some ⟨g2, 0, none⟩) (some ⟨g, o, none⟩) 504 504 504 (d + 25) _ _ y2 HBT.out (by decide) Hb504.out (by omega) (by decide) (by decide)).mono ?_
  rintro e y3 ⟨rfl, hy3'⟩
  have hW3 : Below w3.heap.size w3 y3 := Bthen hW2 hy3'
  rw [List.drop_zero, Hsm.out]
  (refine hK _ _ ?_; clear hK hK' K K')
  refine ⟨inB_more hW3, ?_⟩
  (repeat ((with_reducible refine wpPerm_F ?_); intro K hK; go_simp; refine hK _ _ ?_; clear hK K))
  have Hb8 := Lib.hid (bytes_part (Hbytes.out.below hW3) 504 8 (by decide))
  have Hb504b := Lib.hid (bytes_part (Hbytes.out.below hW3) 0 504 (by decide))
  have hKy := hK.below (hB3.trans (hW3.mono hB3.size))
  (with_reducible refine wpPerm_G ?_); intro K K' hK hK'; go_simp
  refine (Check_any (some ⟨g, o, none⟩) (some ⟨g, o + 504, none⟩) 504 (d + 25) 8 (d - 479) _ _ hKy Hb504b.out Hb8.out (by omega) (by decide) (by decide) (by decide)).mono ?_
  rintro e y4 ⟨rfl, hy4⟩
  have hW4 : Below w3.heap.size w3 y4 := Bthen hW3 hy4
  rw [List.drop_zero, List.take_of_length_le (l := l.drop 504) Hl8.out, Hck.out]
  (refine hK _ _ ?_; clear hK hK' K K')
  refine ⟨inB_more hW4, ?_⟩
  (repeat ((with_reducible refine wpPerm_F ?_); intro K hK; go_simp; refine hK _ _ ?_; clear hK K))
  refine wpPerm_nil ?_
  have hX := (hW4.block _ (blk_lt hx3)).trans hx3
  have hBf := hB3.trans (hW4.mono hB3.size)
  obtain ⟨z0, z1, z2, z3, z4, zf⟩ := cells5 hX
  clear hbox0 hbox1 hbox2 hbox3 hbox4
  go_wp2_with fail
  obtain ⟨V, hV, hXs, hFs⟩ := five_set hX (.int .i64 0) (.int .u64 0) (.int .i64 0) (.int .u64 0) (.slice none 0 0)
  rw [hV]
  obtain ⟨y0, y1', y2', y3', y4', yf⟩ := cells5 hXs
  refine bodyPost_ret (v := .tuple #[.agg #[.int .i64 0, .int .u64 0, .int .i64 0, .int .u64 0, .slice none 0 0], .int .i64 11]) ?_ rfl (DecPost.zero (hBf.trans (hFs.own (Nat.le_refl _) hBf.size)))
  simp [results, Try.results58, go_sem, y0, y1', y2', y3', y4']

set_option maxRecDepth 100000 in
set_option maxHeartbeats 2000000 in
theorem Decode_yes (p : Int) (g o d : Nat) (l : List UInt8) (x : Sec) (hK : SuitP w u K S) (hb : BytesAt w (some ⟨g, o, none⟩) 512 l) (hd : 487 ≤ d) (hl : l ≠ blankS) (hr : readS l = some x) (hri : rightS p x = 0) (hsm : textS p x = l.take 504) (hck : checkK K (l.take 504) (l.drop 504) = true) :
    Calls Try.prog 58 #[.pointer (some ⟨u, 0, none⟩), .int .i64 p, .slice (some ⟨g, o, none⟩) 512 (d + 25)] w fun e w' => DecPost (0, x) w e w' := by
  have hdb : decide (l = blankS) = false := by simpa using hl
  have hd1 : (504 : Int) ≤ (d : Int) + 25 := by omega
  have hd2 : ¬ (d + 25 = 504) := by omega
  have hd3 : ¬ (d = 479) := by omega
  have Hright : Hid (∀ (A : Option Addr) (c : Nat) W, Calls Try.prog 139 #[.int .i64 p, secV x A c] W fun e w' => e = .returned (.int .i64 0) ∧ Below W.heap.size W w') := Lib.hid fun A c W => by rw [← hri]; exact right_any p x A c W
  have Hwr : Hid (∀ (A : Option Addr) (c : Nat) W, BytesAt W A x.body.length x.body → Calls Try.prog 141 #[.int .i64 p, secV x A c] W fun e w' => ∃ g', e = .returned (.slice (some ⟨g', 0, none⟩) 504 504) ∧
      w'.ownsRow W.heap.size 5 1 (.slice (some ⟨g', 0, none⟩) 504 504) 504 (bytesV (textS p x)) ∧ Below W.heap.size W w') := Lib.hid fun A c W hb => written_all p x A c W hri hb
  clear hri
  have Hsm : Hid (decide (textS p x = l.take 504) = true) := Lib.hid (by simpa using hsm)
  clear hsm
  have Hck : Hid (checkK K (l.take 504) (l.drop 504) = true) := Lib.hid (by exact hck)
  have Hl8 : Hid ((l.drop 504).length ≤ 8) := Lib.hid (by rw [List.length_drop, hb.len]; decide)
  clear hck
  have Hb := Lib.hid hb; clear hb
  have Hr := Lib.hid hr; clear hr hl
  go_enter Try.func58, Try.ntmps58
  go_wp2_with fail
  refine (none_any _ _).mono ?_; rintro e w1 ⟨rfl, rfl⟩
  go_wp2_with fail
  refine (IsBlank_any (some ⟨g, o, none⟩) 512 (d + 25) l _ (Hb.out.below (Bbox _ _)) (by omega) (by decide)).mono ?_
  rintro e w1 ⟨rfl, hb1⟩
  rw [World.size_alloc] at hb1
  have hx := zero_cells hb1
  have hB1 : Below w.heap.size w w1 := (Bbox w _).trans (hb1.mono (Nat.le_succ _))
  go_wp2_with fail
  refine (read_any g o d l w1 (Hb.out.below hB1) hd).mono ?_
  rintro e w2 hp
  rcases hp with ⟨hs, _⟩ | ⟨x', A, c', hs, rfl, hown2, hb2⟩
  case inl => rw [Hr.out] at hs; cases hs
  obtain rfl : x = x' := Option.some.inj (Hr.out.symm.trans hs)
  have hx2 := (hb2.block _ (blk_lt hx)).trans hx
  have hB2 := Bthen hB1 hb2
  have hz1 := hB1.size
  have hz1' := blk_lt hx
  obtain ⟨xk, xl, xq, xg, xb⟩ := x
  have Hright := Lib.hid Hright.out
  unfold secV at Hright Hwr
  unfold secV
  simp only at hown2
  simp only
  go_wp2_with fail
  have hx3 := (Below.heap_alloc w2 (.cells #[.int .i64 xk, .int .u64 (xl : Int), .int .i64 xq, .int .u64 (xg : Int), .slice A xb.length c'] 54) _ (blk_lt hx2)).trans hx2
  have hy3 := heap_alloc_new w2 (.cells #[.int .i64 xk, .int .u64 (xl : Int), .int .i64 xq, .int .u64 (xg : Int), .slice A xb.length c'] 54)
  have hb3 : Below w2.heap.size w2 (w2.alloc (.cells #[.int .i64 xk, .int .u64 (xl : Int), .int .i64 xq, .int .u64 (xg : Int), .slice A xb.length c'] 54)) := Bbox _ _
  generalize w2.alloc (.cells #[.int .i64 xk, .int .u64 (xl : Int), .int .i64 xq, .int .u64 (xg : Int), .slice A xb.length c'] 54) = w3 at hx3 hy3 hb3 ⊢
  have hB3 := Bthen hB2 hb3
  have hown3 := own_below hown2 hb3
  have hbody := BytesAt.own hown3
  have hbytes := Hb.out.below hB3
  clear hx hx2 hb1 hb2 hown2 hs
  have hbox := box_facts hy3
  have hbox0 := fun x => (hbox x).1
  have hbox1 := fun x => (hbox x).2.1
  have hbox2 := fun x => (hbox x).2.2.1
  have hbox3 := fun x => (hbox x).2.2.2.1
  have hbox4 := fun x => (hbox x).2.2.2.2
  have Hown3 := Lib.hid hown3
  have Hbody := Lib.hid hbody
  have Hbytes := Lib.hid hbytes
  clear hbox hown3 hbody hbytes
  refine wp_region_in (BelowW w3) [(0, true), (1, true), (2, true), (3, true), (4, true), (5, false), (6, true), (7, true), (8, true), (9, true), (10, true), (12, true), (13, true), (11, false), (14, false), (15, true), (16, true), (17, true), (18, true), (19, true), (20, true), (21, true), (22, true), (23, false), (24, true), (25, true)] (by kernel_rfl) (by kernel_rfl) (fun _ _ _ _ _ h => h) (inB_drew _) (fun hne => ?_)
  simp only [permOps, List.map_cons, List.map_nil, List.getD_cons_zero, List.getD_cons_succ]
  (repeat ((with_reducible refine wpPerm_F ?_); intro K hK; go_simp; refine hK _ _ ?_; clear hK K))
  (with_reducible refine wpPerm_G ?_); intro K K' hK hK'; go_simp
  refine (Hright.out A c' _).mono ?_
  rintro e y1 ⟨rfl, hy1⟩
  have hW1 : Below w3.heap.size w3 y1 := Bthen (Bdrew (Bnil w3)) hy1
  (refine hK _ _ ?_; clear hK hK' K K')
  refine ⟨inB_more hW1, ?_⟩
  (repeat ((with_reducible refine wpPerm_F ?_); intro K hK; go_simp; refine hK _ _ ?_; clear hK K))
  (with_reducible refine wpPerm_G ?_); intro K K' hK hK'; go_simp
  refine (Hwr.out A c' _ (Hbody.out.below hW1)).mono ?_
  rintro e y2 ⟨g2, rfl, hownT, hy2⟩
  have hW2 : Below w3.heap.size w3 y2 := Bthen hW1 hy2
  have HBT := Lib.hid (BytesAt.own hownT); clear hownT
  have Hb504 := Lib.hid (bytes_part (Hbytes.out.below hW2) 0 504 (by decide))
  (refine hK _ _ ?_; clear hK hK' K K')
  refine ⟨inB_more hW2, ?_⟩
  (repeat ((with_reducible refine wpPerm_F ?_); intro K hK; go_simp; refine hK _ _ ?_; clear hK K))
  (with_reducible refine wpPerm_G ?_); intro K K' hK hK'; go_simp
  refine (NSame_any (some ⟨g2, 0, none⟩) (some ⟨g, o, none⟩) 504 504 504 (d + 25) _ _ y2 HBT.out (by decide) Hb504.out (by omega) (by decide) (by decide)).mono ?_
  rintro e y3 ⟨rfl, hy3'⟩
  have hW3 : Below w3.heap.size w3 y3 := Bthen hW2 hy3'
  rw [List.drop_zero, Hsm.out]
  (refine hK _ _ ?_; clear hK hK' K K')
  refine ⟨inB_more hW3, ?_⟩
  (repeat ((with_reducible refine wpPerm_F ?_); intro K hK; go_simp; refine hK _ _ ?_; clear hK K))
  have Hb8 := Lib.hid (bytes_part (Hbytes.out.below hW3) 504 8 (by decide))
  have Hb504b := Lib.hid (bytes_part (Hbytes.out.below hW3) 0 504 (by decide))
  have hKy := hK.below (hB3.trans (hW3.mono hB3.size))
  (with_reducible refine wpPerm_G ?_); intro K K' hK hK'; go_simp
  refine (Check_any (some ⟨g, o, none⟩) (some ⟨g, o + 504, none⟩) 504 (d + 25) 8 (d - 479) _ _ hKy Hb504b.out Hb8.out (by omega) (by decide) (by decide) (by decide)).mono ?_
  rintro e y4 ⟨rfl, hy4⟩
  have hW4 : Below w3.heap.size w3 y4 := Bthen hW3 hy4
  rw [List.drop_zero, List.take_of_length_le (l := l.drop 504) Hl8.out, Hck.out]
  (refine hK _ _ ?_; clear hK hK' K K')
  refine ⟨inB_more hW4, ?_⟩
  (repeat ((with_reducible refine wpPerm_F ?_); intro K hK; go_simp; refine hK _ _ ?_; clear hK K))
  refine wpPerm_nil ?_
  have hX := (hW4.block _ (blk_lt hx3)).trans hx3
  have hY := (hW4.block _ (blk_lt hy3)).trans hy3
  have hBf := hB3.trans (hW4.mono hB3.size)
  have hownf := own_below Hown3.out hW4
  have hlt := blk_lt hx3
  obtain ⟨z0, z1, z2, z3, z4, zf⟩ := cells5 hX
  obtain ⟨v0, v1, v2, v3, v4, vf⟩ := cells5 hY
  clear hbox0 hbox1 hbox2 hbox3 hbox4
  go_wp2_with fail
  obtain ⟨V, hV, hXs, hFs⟩ := five_set hX (.int .i64 xk) (.int .u64 (xl : Int)) (.int .i64 xq) (.int .u64 (xg : Int)) (.slice A xb.length c')
  rw [hV]
  obtain ⟨y0, y1', y2', y3', y4', yf⟩ := cells5 hXs
  refine bodyPost_ret (v := .tuple #[.agg #[.int .i64 xk, .int .u64 (xl : Int), .int .i64 xq, .int .u64 (xg : Int), .slice A xb.length c'], .int .i64 0]) ?_ rfl ⟨A, c', rfl, ?_, hBf.trans (hFs.own (Nat.le_refl _) hBf.size)⟩
  · simp [results, Try.results58, go_sem, y0, y1', y2', y3', y4']
  · exact own_mono (own_frame hownf hFs (fun k hk => by omega)) hz1

theorem part_take (l : List UInt8) (i k : Nat) (h : i + k ≤ 504) : ((l.take 504).drop i).take k = (l.drop i).take k := by
  rw [List.drop_take, List.take_take, Nat.min_eq_left (by omega)]
theorem readS_take (l : List UInt8) : readS (l.take 504) = readS l := by
  unfold readS
  rw [part_take l 23 2 (by decide), part_take l 3 8 (by decide), part_take l 11 4 (by decide), part_take l 15 8 (by decide), List.take_take]
  by_cases h : 479 < getB ((l.drop 23).take 2)
  · rw [if_pos h, if_pos h]
  · rw [if_neg h, if_neg h, part_take l 25 _ (by omega)]
    rfl

/-- Decode, whatever the bytes. -/
theorem Decode_any (p : Int) (g o c : Nat) (l : List UInt8) (hK : SuitP w u K S) (hb : BytesAt w (some ⟨g, o, none⟩) 512 l) (hc : 512 ≤ c) :
    Calls Try.prog 58 #[.pointer (some ⟨u, 0, none⟩), .int .i64 p, .slice (some ⟨g, o, none⟩) 512 c] w fun e w' => DecPost (decK K p l) w e w' := by
  unfold decK
  rw [if_neg (by rw [hb.len]; simp)]
  by_cases hl : l = blankS
  · rw [if_pos hl]; exact Decode_blank p g o c l u w hb hc hl
  · rw [if_neg hl]
    obtain ⟨d, rfl⟩ : ∃ d, c = d + 25 := ⟨c - 25, by omega⟩
    unfold ofS
    rw [readS_take]
    cases hr : readS l with
    | none => exact Decode_none p g o d l u w hb (by omega) hl hr
    | some x =>
      simp only
      by_cases hri : rightS p x = 0
      · by_cases hsm : textS p x = l.take 504
        · rw [if_pos ⟨hri, hsm⟩]
          cases hck : checkK K (l.take 504) (l.drop 504) with
          | false => exact Decode_sum p g o d l x hK hb (by omega) hl hr hri hsm hck
          | true => exact Decode_yes p g o d l x hK hb (by omega) hl hr hri hsm hck
        · rw [if_neg (fun h => hsm h.2)]
          exact Decode_text p g o d l x hb (by omega) hl hr hri hsm
      · rw [if_neg (fun h => hri h.1)]
        exact Decode_right p g o d l x hb (by omega) hl hr hri

end
end Go.Proofs.Ytdjndeleafhglaa
namespace Go.Proofs.Ytdjndeleafhglaa
open Go.RowKit

set_option maxRecDepth 100000 in
set_option maxHeartbeats 1000000 in
theorem of_any (x : Sec) (A : Option Addr) (c : Nat) (w : World) : Calls Try.prog 67 #[secV x A c] w fun e w' => e = .returned (secV x A c) ∧ Below w.heap.size w w' := by
  unfold secV
  go_enter Try.func67, Try.ntmps67
  go_wp2_with fail
  refine bodyPost_ret (v := .agg #[.int .i64 x.kind, .int .u64 (x.life : Int), .int .i64 x.seq, .int .u64 (x.gen : Int), .slice A x.body.length c]) ?_ rfl ⟨rfl, ?_⟩
  · simp [results, Try.results67, go_sem]
  · ((repeat (first | (with_reducible exact Bnil _) | (with_reducible assumption) | (with_reducible refine Bset ?_ ?_ _) | (with_reducible refine Bnew ?_ _) | (with_reducible refine Bdrew ?_) | (with_reducible refine Bthen ?_ (by assumption)))); all_goals (simp; try omega))
set_option maxRecDepth 100000 in
set_option maxHeartbeats 1000000 in
theorem back_any (x : Sec) (A : Option Addr) (c : Nat) (w : World) : Calls Try.prog 65 #[secV x A c] w fun e w' => e = .returned (secV x A c) ∧ Below w.heap.size w w' := by
  unfold secV
  go_enter Try.func65, Try.ntmps65
  go_wp2_with fail
  refine bodyPost_ret (v := .agg #[.int .i64 x.kind, .int .u64 (x.life : Int), .int .i64 x.seq, .int .u64 (x.gen : Int), .slice A x.body.length c]) ?_ rfl ⟨rfl, ?_⟩
  · simp [results, Try.results65, go_sem]
  · ((repeat (first | (with_reducible exact Bnil _) | (with_reducible assumption) | (with_reducible refine Bset ?_ ?_ _) | (with_reducible refine Bnew ?_ _) | (with_reducible refine Bdrew ?_) | (with_reducible refine Bthen ?_ (by assumption)))); all_goals (simp; try omega))

set_option maxRecDepth 100000 in
set_option maxHeartbeats 4000000 in
theorem SSame_any (x y : Sec) (A B : Option Addr) (ca cb : Nat) (w : World) (ha : BytesAt w A x.body.length x.body) (hca : x.body.length ≤ ca) (hb : BytesAt w B y.body.length y.body) (hcb : y.body.length ≤ cb) (hn : x.body.length ≤ 140737488351232) (hm : y.body.length ≤ 140737488351232) :
    Calls Try.prog 69 #[secV x A ca, secV y B cb] w fun e w' => e = .returned (.bool (decide (x = y))) ∧ Below w.heap.size w w' := by
  have hy : decide (x = y) = (decide (x.kind = y.kind) && (decide (x.life = y.life) && (decide (x.seq = y.seq) && (decide (x.gen = y.gen) && decide (x.body = y.body))))) := by
    rw [Bool.eq_iff_iff]; simp [Sec.eq_iff]
  rw [hy]
  obtain ⟨k, l, q, g, b⟩ := x
  obtain ⟨k', l', q', g', b'⟩ := y
  unfold secV
  simp only at *
  clear hy
  have Ha := Lib.hid ha; clear ha
  have Hb := Lib.hid hb; clear hb
  by_cases h1 : k = k'
  case neg =>
    go_enter Try.func69, Try.ntmps69
    go_wp2_with fail
    go_ret
    exact ⟨ret_bool (by simp [h1]), by ((repeat (first | (with_reducible exact Bnil _) | (with_reducible assumption) | (with_reducible refine Bset ?_ ?_ _) | (with_reducible refine Bnew ?_ _) | (with_reducible refine Bdrew ?_) | (with_reducible refine Bthen ?_ (by assumption)))); all_goals (simp; try omega))⟩
  subst h1
  by_cases h2 : l = l'
  case neg =>
    have h2' : ¬ (l : Int) = (l' : Int) := by omega
    go_enter Try.func69, Try.ntmps69
    go_wp2_with fail
    go_ret
    exact ⟨ret_bool (by simp [h2]), by ((repeat (first | (with_reducible exact Bnil _) | (with_reducible assumption) | (with_reducible refine Bset ?_ ?_ _) | (with_reducible refine Bnew ?_ _) | (with_reducible refine Bdrew ?_) | (with_reducible refine Bthen ?_ (by assumption)))); all_goals (simp; try omega))⟩
  subst h2
  by_cases h3 : q = q'
  case neg =>
    go_enter Try.func69, Try.ntmps69
    go_wp2_with fail
    go_ret
    exact ⟨ret_bool (by simp [h3]), by ((repeat (first | (with_reducible exact Bnil _) | (with_reducible assumption) | (with_reducible refine Bset ?_ ?_ _) | (with_reducible refine Bnew ?_ _) | (with_reducible refine Bdrew ?_) | (with_reducible refine Bthen ?_ (by assumption)))); all_goals (simp; try omega))⟩
  subst h3
  by_cases h4 : g = g'
  case neg =>
    have h4' : ¬ (g : Int) = (g' : Int) := by omega
    go_enter Try.func69, Try.ntmps69
    go_wp2_with fail
    go_ret
    exact ⟨ret_bool (by simp [h4]), by ((repeat (first | (with_reducible exact Bnil _) | (with_reducible assumption) | (with_reducible refine Bset ?_ ?_ _) | (with_reducible refine Bnew ?_ _) | (with_reducible refine Bdrew ?_) | (with_reducible refine Bthen ?_ (by assumption)))); all_goals (simp; try omega))⟩
  subst h4
  have hbx : Below w.heap.size w ((w.alloc (.cells #[.int .i64 k, .int .u64 (l : Int), .int .i64 q, .int .u64 (g : Int), .slice A b.length ca] 54)).alloc (.cells #[.int .i64 k, .int .u64 (l : Int), .int .i64 q, .int .u64 (g : Int), .slice B b'.length cb] 54)) := Bnew (Bbox _ _) _
  have Ha2 := Lib.hid (Ha.out.below hbx)
  have Hb2 := Lib.hid (Hb.out.below hbx)
  have Hbx := Lib.hid hbx; clear hbx
  go_enter Try.func69, Try.ntmps69
  go_wp2_with fail
  refine (NSame_any A B b.length b'.length ca cb b b' _ Ha2.out hca Hb2.out hcb hn hm).mono ?_
  rintro e w1 ⟨rfl, hb1⟩
  go_wp2_with fail
  go_ret
  exact ⟨ret_bool (by simp), Bthen Hbx.out hb1⟩

theorem dec_blank (K : SU) (p : Int) : decK K p blankS = (7, secZero) := by
  unfold decK
  rw [if_neg (by rw [show blankS.length = 512 from List.length_replicate]; simp), if_pos rfl]

set_option maxRecDepth 100000 in
set_option maxHeartbeats 1000000 in
theorem alive18_any (w : World) : Calls Try.prog 57 #[] w fun e w' => e = .returned (.bool true) ∧ Below w.heap.size w w' := by
  go_enter Try.func57, Try.ntmps57
  go_wp2_with fail
  refine (Real_any w).mono ?_; rintro e w1 ⟨u, S, rfl, hK, hS, hb1⟩
  go_wp2_with fail
  refine (Blank_any w1).mono ?_; rintro e w2 ⟨A, c, rfl, hown, hb2⟩
  have hB := BytesAt.own hown
  have hc := own_cap hown
  obtain ⟨g, o, rfl, _⟩ := hB.at_ (by decide)
  have HK := Lib.hid (hK.below hb2); clear hK
  have HB := Lib.hid hB; clear hB hown
  have hB2 := Bthen hb1 hb2
  go_wp2_with fail
  refine (Decode_any 0 g o c blankS HK.out HB.out hc).mono ?_
  rintro e w3 hp
  rw [dec_blank] at hp
  obtain ⟨A3, c3, rfl, _, hb3⟩ := hp
  have hB3 := Bthen hB2 hb3
  unfold secV secZero
  go_wp2_with fail
  refine (Blank_any _).mono ?_; rintro e w4 ⟨A4, c4, rfl, hown4, hb4⟩
  have hB4 := BytesAt.own hown4
  have hc4 := own_cap hown4
  go_wp2_with fail
  refine (IsBlank_any A4 512 c4 blankS w4 hB4 hc4 (by decide)).mono ?_
  rintro e w5 ⟨rfl, hb5⟩
  go_wp2_with fail
  go_ret
  exact ⟨ret_bool (by simp), Bthen (Bthen (Bnew hB3 _) hb4) hb5⟩

end Go.Proofs.Ytdjndeleafhglaa
namespace Go.Proofs.Ytdjndeleafhglaa
open Go.RowKit

/-- What came in: two sectors, and bytes. -/
structure SecIn (w : World) (x : Sec) (A : Option Addr) (c : Nat) : Prop where
  at_ : BytesAt w A x.body.length x.body
  cap : x.body.length ≤ c
  life : x.life < 18446744073709551616
  gen : x.gen < 18446744073709551616
theorem SecIn.below {w w' : World} {x : Sec} {A : Option Addr} {c : Nat} (h : SecIn w x A c) (hb : Below w.heap.size w w') : SecIn w' x A c := ⟨h.at_.below hb, h.cap, h.life, h.gen⟩

set_option maxRecDepth 100000 in
set_option maxHeartbeats 4000000 in
theorem SectorBytes_long (p : Int) (x y : Sec) (A B : Option Addr) (ca cb : Nat) (w : World) (h : 1000 < x.body.length ∨ 1000 < y.body.length) :
    Calls Try.prog 8 #[.int .i64 p, secV x A ca, secV y B cb] w fun e w' => e = .returned (.bool true) ∧ Below w.heap.size w w' := by
  unfold secV
  by_cases h1 : 1000 < x.body.length
  · have h1' : (1000 : Int) < (x.body.length : Int) := by omega
    go_enter Try.func8, Try.ntmps8
    go_wp2_with fail
    refine (alive18_any _).mono ?_; rintro e w1 ⟨rfl, hb1⟩
    go_wp2_with fail
    go_ret
    exact ⟨rfl, Bthen (Bnew (Bbox _ _) _) hb1⟩
  · have h1' : ¬ (1000 : Int) < (x.body.length : Int) := by omega
    have h2' : (1000 : Int) < (y.body.length : Int) := by omega
    go_enter Try.func8, Try.ntmps8
    go_wp2_with fail
    refine (alive18_any _).mono ?_; rintro e w1 ⟨rfl, hb1⟩
    go_wp2_with fail
    go_ret
    exact ⟨rfl, Bthen (Bnew (Bbox _ _) _) hb1⟩

set_option maxRecDepth 100000 in
set_option maxHeartbeats 4000000 in
theorem SectorBytes_no (p : Int) (x y : Sec) (A B : Option Addr) (ca cb : Nat) (w : World) (hx : SecIn w x A ca) (hy : SecIn w y B cb) (h1 : ¬ 1000 < x.body.length) (h2 : ¬ 1000 < y.body.length) (hr : rightS p x ≠ 0) :
    Calls Try.prog 8 #[.int .i64 p, secV x A ca, secV y B cb] w fun e w' => e = .returned (.bool true) ∧ Below w.heap.size w w' := by
  have h1' : ¬ (1000 : Int) < (x.body.length : Int) := by omega
  have h2' : ¬ (1000 : Int) < (y.body.length : Int) := by omega
  have hbx : Below w.heap.size w ((w.alloc (.cells #[.int .i64 x.kind, .int .u64 (x.life : Int), .int .i64 x.seq, .int .u64 (x.gen : Int), .slice A x.body.length ca] 60)).alloc (.cells #[.int .i64 y.kind, .int .u64 (y.life : Int), .int .i64 y.seq, .int .u64 (y.gen : Int), .slice B y.body.length cb] 60)) := Bnew (Bbox _ _) _
  have hX : ((w.alloc (.cells #[.int .i64 x.kind, .int .u64 (x.life : Int), .int .i64 x.seq, .int .u64 (x.gen : Int), .slice A x.body.length ca] 60)).alloc (.cells #[.int .i64 y.kind, .int .u64 (y.life : Int), .int .i64 y.seq, .int .u64 (y.gen : Int), .slice B y.body.length cb] 60)).heap[w.heap.size]? = some (.cells #[.int .i64 x.kind, .int .u64 (x.life : Int), .int .i64 x.seq, .int .u64 (x.gen : Int), .slice A x.body.length ca] 60 (0, 0)) := by
    rw [Below.heap_alloc _ _ _ (by simp)]; exact heap_alloc_new w _
  have hY : ((w.alloc (.cells #[.int .i64 x.kind, .int .u64 (x.life : Int), .int .i64 x.seq, .int .u64 (x.gen : Int), .slice A x.body.length ca] 60)).alloc (.cells #[.int .i64 y.kind, .int .u64 (y.life : Int), .int .i64 y.seq, .int .u64 (y.gen : Int), .slice B y.body.length cb] 60)).heap[w.heap.size + 1]? = some (.cells #[.int .i64 y.kind, .int .u64 (y.life : Int), .int .i64 y.seq, .int .u64 (y.gen : Int), .slice B y.body.length cb] 60 (0, 0)) := by
    have := heap_alloc_new (w.alloc (.cells #[.int .i64 x.kind, .int .u64 (x.life : Int), .int .i64 x.seq, .int .u64 (x.gen : Int), .slice A x.body.length ca] 60)) (.cells #[.int .i64 y.kind, .int .u64 (y.life : Int), .int .i64 y.seq, .int .u64 (y.gen : Int), .slice B y.body.length cb] 60)
    simpa using this
  unfold secV
  have Hbx := Lib.hid hbx; clear hbx
  have HX := Lib.hid hX; clear hX
  have HY := Lib.hid hY; clear hY
  have hrb : (rightS p x != 0) = true := by simpa using hr
  have Hr := Lib.hid hr
  go_enter Try.func8, Try.ntmps8
  go_wp2_with fail
  have hbx := Hbx.out
  have hX := HX.out
  have hY := HY.out
  clear Hbx HX HY
  generalize (w.alloc (.cells #[.int .i64 x.kind, .int .u64 (x.life : Int), .int .i64 x.seq, .int .u64 (x.gen : Int), .slice A x.body.length ca] 60)).alloc (.cells #[.int .i64 y.kind, .int .u64 (y.life : Int), .int .i64 y.seq, .int .u64 (y.gen : Int), .slice B y.body.length cb] 60) = W at hbx hX hY ⊢
  have hxW := hx.below hbx
  have hyW := hy.below hbx
  have hbox := box_facts hX
  have hbox0 := fun x => (hbox x).1
  have hbox1 := fun x => (hbox x).2.1
  have hbox2 := fun x => (hbox x).2.2.1
  have hbox3 := fun x => (hbox x).2.2.2.1
  have hbox4 := fun x => (hbox x).2.2.2.2
  clear hbox
  refine wp_region_in (BelowW W) [(1, true), (2, true), (0, false), (3, false), (4, false), (5, true), (6, true), (7, true), (8, true), (9, true)] (by kernel_rfl) (by kernel_rfl) (fun _ _ _ _ _ h => h) (inB_drew _) (fun hne => ?_)
  simp only [permOps, List.map_cons, List.map_nil, List.getD_cons_zero, List.getD_cons_succ]
  (repeat ((with_reducible refine wpPerm_F ?_); intro K hK; go_simp; refine hK _ _ ?_; clear hK K))
  (with_reducible refine wpPerm_E rfl ?_); intro K hK
  go_wp2_with fail
  refine (Real_any _).mono ?_; rintro e w1 ⟨u, S, rfl, hU, hS, hb1⟩
  have hW1 : Below W.heap.size W w1 := Bthen (Bdrew (Bnil W)) hb1
  (refine hK _ _ ?_; clear hK K)
  refine ⟨inB_more hW1, ?_⟩
  (repeat ((with_reducible refine wpPerm_F ?_); intro K hK; go_simp; refine hK _ _ ?_; clear hK K))
  (with_reducible refine wpPerm_E rfl ?_); intro K hK
  go_wp2_with fail
  refine (of_any x A ca w1).mono ?_; rintro e w2 ⟨rfl, hb2⟩
  have hW2 : Below W.heap.size W w2 := Bthen hW1 hb2
  (refine hK _ _ ?_; clear hK K)
  refine ⟨inB_more hW2, ?_⟩
  (with_reducible refine wpPerm_E rfl ?_); intro K hK
  go_wp2_with fail
  refine (Encode_no (u := u) p x A ca Hr.out).mono ?_; rintro e w3 ⟨rfl, hb3⟩
  have hW3 : Below W.heap.size W w3 := Bthen hW2 hb3
  (refine hK _ _ ?_; clear hK K)
  refine ⟨inB_more hW3, ?_⟩
  (repeat ((with_reducible refine wpPerm_F ?_); intro K hK; go_simp; refine hK _ _ ?_; clear hK K))
  refine wpPerm_nil ?_
  clear hbox0 hbox1 hbox2 hbox3 hbox4
  obtain ⟨a0, a1, a2, a3, a4, af⟩ := cells5 ((hW3.block _ (blk_lt hX)).trans hX)
  go_wp2_with fail
  refine (of_any x A ca w3).mono ?_; rintro e w4 ⟨rfl, hb4⟩
  have hW4 : Below W.heap.size W w4 := Bthen hW3 hb4
  go_wp2_with fail
  refine (Encode_nil p x A ca w4).mono ?_; rintro e w5 ⟨rfl, hb5⟩
  have hW5 : Below W.heap.size W w5 := Bthen hW4 hb5
  clear a0 a1 a2 a3 a4 af
  obtain ⟨a0, a1, a2, a3, a4, af⟩ := cells5 ((hW5.block _ (blk_lt hX)).trans hX)
  go_wp2_with fail
  have hx5 := hxW.below hW5
  refine (RRight18_any p x A ca w5 hx5.at_ hx5.cap (by omega)).mono ?_; rintro e w6 ⟨rfl, hb6⟩
  have hW6 : Below W.heap.size W w6 := Bthen hW5 hb6
  clear a0 a1 a2 a3 a4 af
  have xxb := box_facts ((hW6.block _ (blk_lt hX)).trans hX); have xx0 := fun x => (xxb x).1; have xx1 := fun x => (xxb x).2.1; have xx2 := fun x => (xxb x).2.2.1; have xx3 := fun x => (xxb x).2.2.2.1; have xx4 := fun x => (xxb x).2.2.2.2; clear xxb
  have yyb := box_facts ((hW6.block _ (blk_lt hY)).trans hY); have yy0 := fun x => (yyb x).1; have yy1 := fun x => (yyb x).2.1; have yy2 := fun x => (yyb x).2.2.1; have yy3 := fun x => (yyb x).2.2.2.1; have yy4 := fun x => (yyb x).2.2.2.2; clear yyb
  go_wp2_with fail
  refine wp_region_in (BelowW w6) [(0, true), (1, true), (2, true), (3, true), (4, true), (5, true), (6, true), (7, true), (8, true), (10, true), (13, true), (14, true), (9, false), (11, false), (12, false), (15, false), (16, true), (17, true)] (by kernel_rfl) (by kernel_rfl) (fun _ _ _ _ _ h => h) (inB_drew _) (fun hne => ?_)
  simp only [permOps, List.map_cons, List.map_nil, List.getD_cons_zero, List.getD_cons_succ]
  (repeat ((with_reducible refine wpPerm_F ?_); intro K hK; go_simp; refine hK _ _ ?_; clear hK K))
  (with_reducible refine wpPerm_G ?_); intro K K' hK hK'; go_simp
  refine (of_any x A ca _).mono ?_; rintro e y1 ⟨rfl, hc1⟩
  have hV1 : Below w6.heap.size w6 y1 := Bthen (Bdrew (Bnil w6)) hc1
  (refine hK _ _ ?_; clear hK hK' K K')
  refine ⟨inB_more hV1, ?_⟩
  (with_reducible refine wpPerm_G ?_); intro K K' hK hK'; go_simp
  refine (of_any y B cb _).mono ?_; rintro e y2 ⟨rfl, hc2⟩
  have hV2 : Below w6.heap.size w6 y2 := Bthen hV1 hc2
  (refine hK _ _ ?_; clear hK hK' K K')
  refine ⟨inB_more hV2, ?_⟩
  have hx6 := (hxW.below hW6).below hV2
  have hy6 := (hyW.below hW6).below hV2
  (with_reducible refine wpPerm_G ?_); intro K K' hK hK'; go_simp
  refine (SSame_any x y A B ca cb y2 hx6.at_ hx6.cap hy6.at_ hy6.cap (by omega) (by omega)).mono ?_; rintro e y3 ⟨rfl, hc3⟩
  have hV3 : Below w6.heap.size w6 y3 := Bthen hV2 hc3
  (refine hK _ _ ?_; clear hK hK' K K')
  refine ⟨inB_more hV3, ?_⟩
  have hx7 := hx6.below hc3
  have hy7 := hy6.below hc3
  (with_reducible refine wpPerm_G ?_); intro K K' hK hK'; go_simp
  refine (RSame18_any x y A B ca cb y3 hx7.at_ hx7.cap hy7.at_ hy7.cap (by omega) (by omega)).mono ?_; rintro e y4 ⟨rfl, hc4⟩
  have hV4 : Below w6.heap.size w6 y4 := Bthen hV3 hc4
  (refine hK _ _ ?_; clear hK hK' K K')
  refine ⟨inB_more hV4, ?_⟩
  clear hx6 hy6 hx7 hy7
  (repeat ((with_reducible refine wpPerm_F ?_); intro K hK; go_simp; refine hK _ _ ?_; clear hK K))
  refine wpPerm_nil ?_
  clear xx0 xx1 xx2 xx3 xx4 yy0 yy1 yy2 yy3 yy4
  have hWy : Below W.heap.size W y4 := hW6.trans (hV4.mono hW6.size)
  go_wp2_with fail
  refine (alive18_any _).mono ?_; rintro e w7 ⟨rfl, hb7⟩
  go_wp2_with fail
  go_ret
  exact ⟨rfl, hbx.trans ((Bthen hWy hb7).mono hbx.size)⟩

set_option maxRecDepth 100000 in
set_option maxHeartbeats 4000000 in
theorem SectorBytes_yes (p : Int) (x y : Sec) (A B : Option Addr) (ca cb : Nat) (w : World) (hx : SecIn w x A ca) (hy : SecIn w y B cb) (h1 : ¬ 1000 < x.body.length) (h2 : ¬ 1000 < y.body.length) (hr : rightS p x = 0) :
    Calls Try.prog 8 #[.int .i64 p, secV x A ca, secV y B cb] w fun e w' => e = .returned (.bool true) ∧ Below w.heap.size w w' := by
  have h1' : ¬ (1000 : Int) < (x.body.length : Int) := by omega
  have h2' : ¬ (1000 : Int) < (y.body.length : Int) := by omega
  have hbx : Below w.heap.size w ((w.alloc (.cells #[.int .i64 x.kind, .int .u64 (x.life : Int), .int .i64 x.seq, .int .u64 (x.gen : Int), .slice A x.body.length ca] 60)).alloc (.cells #[.int .i64 y.kind, .int .u64 (y.life : Int), .int .i64 y.seq, .int .u64 (y.gen : Int), .slice B y.body.length cb] 60)) := Bnew (Bbox _ _) _
  have hX : ((w.alloc (.cells #[.int .i64 x.kind, .int .u64 (x.life : Int), .int .i64 x.seq, .int .u64 (x.gen : Int), .slice A x.body.length ca] 60)).alloc (.cells #[.int .i64 y.kind, .int .u64 (y.life : Int), .int .i64 y.seq, .int .u64 (y.gen : Int), .slice B y.body.length cb] 60)).heap[w.heap.size]? = some (.cells #[.int .i64 x.kind, .int .u64 (x.life : Int), .int .i64 x.seq, .int .u64 (x.gen : Int), .slice A x.body.length ca] 60 (0, 0)) := by
    rw [Below.heap_alloc _ _ _ (by simp)]; exact heap_alloc_new w _
  have hY : ((w.alloc (.cells #[.int .i64 x.kind, .int .u64 (x.life : Int), .int .i64 x.seq, .int .u64 (x.gen : Int), .slice A x.body.length ca] 60)).alloc (.cells #[.int .i64 y.kind, .int .u64 (y.life : Int), .int .i64 y.seq, .int .u64 (y.gen : Int), .slice B y.body.length cb] 60)).heap[w.heap.size + 1]? = some (.cells #[.int .i64 y.kind, .int .u64 (y.life : Int), .int .i64 y.seq, .int .u64 (y.gen : Int), .slice B y.body.length cb] 60 (0, 0)) := by
    have := heap_alloc_new (w.alloc (.cells #[.int .i64 x.kind, .int .u64 (x.life : Int), .int .i64 x.seq, .int .u64 (x.gen : Int), .slice A x.body.length ca] 60)) (.cells #[.int .i64 y.kind, .int .u64 (y.life : Int), .int .i64 y.seq, .int .u64 (y.gen : Int), .slice B y.body.length cb] 60)
    simpa using this
  unfold secV
  have Hbx := Lib.hid hbx; clear hbx
  have HX := Lib.hid hX; clear hX
  have HY := Lib.hid hY; clear hY
  have Hr := Lib.hid hr; clear hr
  go_enter Try.func8, Try.ntmps8
  go_wp2_with fail
  have hbx := Hbx.out
  have hX := HX.out
  have hY := HY.out
  clear Hbx HX HY
  generalize (w.alloc (.cells #[.int .i64 x.kind, .int .u64 (x.life : Int), .int .i64 x.seq, .int .u64 (x.gen : Int), .slice A x.body.length ca] 60)).alloc (.cells #[.int .i64 y.kind, .int .u64 (y.life : Int), .int .i64 y.seq, .int .u64 (y.gen : Int), .slice B y.body.length cb] 60) = W at hbx hX hY ⊢
  have hxW := hx.below hbx
  have hyW := hy.below hbx
  have hbox := box_facts hX
  have hbox0 := fun x => (hbox x).1
  have hbox1 := fun x => (hbox x).2.1
  have hbox2 := fun x => (hbox x).2.2.1
  have hbox3 := fun x => (hbox x).2.2.2.1
  have hbox4 := fun x => (hbox x).2.2.2.2
  clear hbox
  refine wp_region_in (BelowW W) [(1, true), (2, true), (0, false), (3, false), (4, false), (5, true), (6, true), (7, true), (8, true), (9, true)] (by kernel_rfl) (by kernel_rfl) (fun _ _ _ _ _ h => h) (inB_drew _) (fun hne => ?_)
  simp only [permOps, List.map_cons, List.map_nil, List.getD_cons_zero, List.getD_cons_succ]
  (repeat ((with_reducible refine wpPerm_F ?_); intro K hK; go_simp; refine hK _ _ ?_; clear hK K))
  (with_reducible refine wpPerm_E rfl ?_); intro K hK
  go_wp2_with fail
  refine (Real_any _).mono ?_; rintro e w1 ⟨u, S, rfl, hU, hS, hb1⟩
  have hW1 : Below W.heap.size W w1 := Bthen (Bdrew (Bnil W)) hb1
  (refine hK _ _ ?_; clear hK K)
  refine ⟨inB_more hW1, ?_⟩
  (repeat ((with_reducible refine wpPerm_F ?_); intro K hK; go_simp; refine hK _ _ ?_; clear hK K))
  (with_reducible refine wpPerm_E rfl ?_); intro K hK
  go_wp2_with fail
  refine (of_any x A ca w1).mono ?_; rintro e w2 ⟨rfl, hb2⟩
  have hW2 : Below W.heap.size W w2 := Bthen hW1 hb2
  (refine hK _ _ ?_; clear hK K)
  refine ⟨inB_more hW2, ?_⟩
  (with_reducible refine wpPerm_E rfl ?_); intro K hK
  go_wp2_with fail
  have hx2 := (hxW.below hW2).at_
  refine (Encode_all p x A ca (hU.below hb2) Hr.out hx2 (by decide)).mono ?_; rintro e w3 ⟨A3, c3, rfl, hown3, _, hf3⟩
  have hb3 : Below W.heap.size w2 w3 := hf3.below (fun q hq => by have := hS q hq; exact this) hW2.size
  have hW3 : Below W.heap.size W w3 := hW2.trans hb3
  have Hown3 := Lib.hid (BytesAt.own hown3)
  have hcap3 := own_cap hown3
  clear hown3 hx2
  (refine hK _ _ ?_; clear hK K)
  refine ⟨inB_more hW3, ?_⟩
  (repeat ((with_reducible refine wpPerm_F ?_); intro K hK; go_simp; refine hK _ _ ?_; clear hK K))
  refine wpPerm_nil ?_
  clear hbox0 hbox1 hbox2 hbox3 hbox4
  obtain ⟨a0, a1, a2, a3, a4, af⟩ := cells5 ((hW3.block _ (blk_lt hX)).trans hX)
  go_wp2_with fail
  refine (of_any x A ca w3).mono ?_; rintro e w4 ⟨rfl, hb4⟩
  have hW4 : Below W.heap.size W w4 := Bthen hW3 hb4
  go_wp2_with fail
  refine (Encode_nil p x A ca w4).mono ?_; rintro e w5 ⟨rfl, hb5⟩
  have hW5 : Below W.heap.size W w5 := Bthen hW4 hb5
  clear a0 a1 a2 a3 a4 af
  obtain ⟨a0, a1, a2, a3, a4, af⟩ := cells5 ((hW5.block _ (blk_lt hX)).trans hX)
  go_wp2_with fail
  have hx5 := hxW.below hW5
  refine (RRight18_any p x A ca w5 hx5.at_ hx5.cap (by omega)).mono ?_; rintro e w6 ⟨rfl, hb6⟩
  have hW6 : Below W.heap.size W w6 := Bthen hW5 hb6
  rw [Hr.out]
  clear a0 a1 a2 a3 a4 af
  have xxb := box_facts ((hW6.block _ (blk_lt hX)).trans hX); have xx0 := fun x => (xxb x).1; have xx1 := fun x => (xxb x).2.1; have xx2 := fun x => (xxb x).2.2.1; have xx3 := fun x => (xxb x).2.2.2.1; have xx4 := fun x => (xxb x).2.2.2.2; clear xxb
  have yyb := box_facts ((hW6.block _ (blk_lt hY)).trans hY); have yy0 := fun x => (yyb x).1; have yy1 := fun x => (yyb x).2.1; have yy2 := fun x => (yyb x).2.2.1; have yy3 := fun x => (yyb x).2.2.2.1; have yy4 := fun x => (yyb x).2.2.2.2; clear yyb
  go_wp2_with fail
  refine wp_region_in (BelowW w6) [(0, true), (1, true), (2, true), (3, true), (4, true), (5, true), (6, true), (7, true), (8, true), (10, true), (13, true), (14, true), (9, false), (11, false), (12, false), (15, false), (16, true), (17, true)] (by kernel_rfl) (by kernel_rfl) (fun _ _ _ _ _ h => h) (inB_drew _) (fun hne => ?_)
  simp only [permOps, List.map_cons, List.map_nil, List.getD_cons_zero, List.getD_cons_succ]
  (repeat ((with_reducible refine wpPerm_F ?_); intro K hK; go_simp; refine hK _ _ ?_; clear hK K))
  (with_reducible refine wpPerm_G ?_); intro K K' hK hK'; go_simp
  refine (of_any x A ca _).mono ?_; rintro e y1 ⟨rfl, hc1⟩
  have hV1 : Below w6.heap.size w6 y1 := Bthen (Bdrew (Bnil w6)) hc1
  (refine hK _ _ ?_; clear hK hK' K K')
  refine ⟨inB_more hV1, ?_⟩
  (with_reducible refine wpPerm_G ?_); intro K K' hK hK'; go_simp
  refine (of_any y B cb _).mono ?_; rintro e y2 ⟨rfl, hc2⟩
  have hV2 : Below w6.heap.size w6 y2 := Bthen hV1 hc2
  (refine hK _ _ ?_; clear hK hK' K K')
  refine ⟨inB_more hV2, ?_⟩
  have hx6 := (hxW.below hW6).below hV2
  have hy6 := (hyW.below hW6).below hV2
  (with_reducible refine wpPerm_G ?_); intro K K' hK hK'; go_simp
  refine (SSame_any x y A B ca cb y2 hx6.at_ hx6.cap hy6.at_ hy6.cap (by omega) (by omega)).mono ?_; rintro e y3 ⟨rfl, hc3⟩
  have hV3 : Below w6.heap.size w6 y3 := Bthen hV2 hc3
  (refine hK _ _ ?_; clear hK hK' K K')
  refine ⟨inB_more hV3, ?_⟩
  have hx7 := hx6.below hc3
  have hy7 := hy6.below hc3
  (with_reducible refine wpPerm_G ?_); intro K K' hK hK'; go_simp
  refine (RSame18_any x y A B ca cb y3 hx7.at_ hx7.cap hy7.at_ hy7.cap (by omega) (by omega)).mono ?_; rintro e y4 ⟨rfl, hc4⟩
  have hV4 : Below w6.heap.size w6 y4 := Bthen hV3 hc4
  (refine hK _ _ ?_; clear hK hK' K K')
  refine ⟨inB_more hV4, ?_⟩
  clear hx6 hy6 hx7 hy7
  (repeat ((with_reducible refine wpPerm_F ?_); intro K hK; go_simp; refine hK _ _ ?_; clear hK K))
  refine wpPerm_nil ?_
  clear xx0 xx1 xx2 xx3 xx4 yy0 yy1 yy2 yy3 yy4
  have hWy : Below W.heap.size W y4 := hW6.trans (hV4.mono hW6.size)
  have HB3 := Lib.hid (((Hown3.out.below hb4).below hb5).below hb6 |>.below hV4)
  obtain ⟨a0, a1, a2, a3, a4, af⟩ := cells5 ((hWy.block _ (blk_lt hX)).trans hX)
  go_wp2_with fail
  have hxy := hxW.below hWy
  refine (RText_any p x A ca y4 hxy.at_ hxy.cap Hr.out hxy.life hxy.gen).mono ?_; rintro e z1 ⟨A7, c7, rfl, hown7, hd1⟩
  have hBT := BytesAt.own hown7
  have hcT := own_cap hown7
  obtain ⟨gt, ot, rfl, _⟩ := hBT.at_ (by decide)
  clear hown7 a0 a1 a2 a3 a4 af
  go_wp2_with fail
  refine (RBytes_any (some ⟨gt, ot, none⟩) 504 c7 _ z1 hBT hcT (by decide)).mono ?_; rintro e z2 ⟨A8, c8, rfl, hown8, hd2⟩
  have hBC := BytesAt.own hown8
  obtain ⟨gc, oc, rfl, _⟩ := hBC.at_ (by decide)
  have hBT2 := hBT.below hd2
  clear hown8
  go_wp2_with fail
  refine (Join_any gt ot 504 c7 gc oc 8 c8 _ _ z2 hBT2 hBC (by decide) (by decide)).mono ?_; rintro e z3 ⟨v, rfl, hownj, hd3⟩
  obtain ⟨Aj, cj, rfl⟩ := own_form hownj
  have hBJ := BytesAt.own hownj
  have hcj := own_cap hownj
  have hd13 := (hd1.trans (hd2.mono hd1.size)).trans (hd3.mono (Nat.le_trans hd1.size hd2.size))
  have hB3z := HB3.out.below hd13
  have henc : (encK none p x).1 = textS p x ++ crcB (textS p x) := rfl
  have hdec : decide ((encK none p x).1 = textS p x ++ crcB (textS p x)) = true := by simp [henc]
  clear hownj
  have Hdec := Lib.hid hdec; clear hdec henc
  go_wp2_with fail
  refine (RSame_any A3 Aj 512 512 c3 cj _ _ z3 hB3z hcap3 hBJ hcj (by decide) (by decide)).mono ?_; rintro e z4 ⟨rfl, hd4⟩
  rw [Hdec.out]
  have hB4z := hB3z.below hd4
  go_wp2_with fail
  refine (IsBlank_any A3 512 c3 _ z4 hB4z hcap3 (by decide)).mono ?_; rintro e z5 ⟨rfl, hd5⟩
  have hB5z := hB4z.below hd5
  go_wp2_with fail
  refine (RBlank_any A3 512 c3 _ z5 hB5z hcap3 (by decide)).mono ?_; rintro e z6 ⟨rfl, hd6⟩
  go_wp2_with fail
  refine (alive18_any _).mono ?_; rintro e z7 ⟨rfl, hd7⟩
  go_wp2_with fail
  go_ret
  have hfin := ((((Bthen (Bthen hWy hd1) hd2) |> (Bthen · hd3)) |> (Bthen · hd4)) |> (Bthen · hd5)) |> (Bthen · hd6) |> (Bthen · hd7)
  exact ⟨rfl, hbx.trans (hfin.mono hbx.size)⟩

theorem SectorBytes_walk (p : Int) (x y : Sec) (A B : Option Addr) (ca cb : Nat) (w : World) (hx : SecIn w x A ca) (hy : SecIn w y B cb) :
    Calls Try.prog 8 #[.int .i64 p, secV x A ca, secV y B cb] w fun e w' => e = .returned (.bool true) ∧ Below w.heap.size w w' := by
  by_cases h : 1000 < x.body.length ∨ 1000 < y.body.length
  · exact SectorBytes_long p x y A B ca cb w h
  · by_cases hr : rightS p x = 0
    · exact SectorBytes_yes p x y A B ca cb w hx hy (fun h1 => h (.inl h1)) (fun h1 => h (.inr h1)) hr
    · exact SectorBytes_no p x y A B ca cb w hx hy (fun h1 => h (.inl h1)) (fun h1 => h (.inr h1)) hr

end Go.Proofs.Ytdjndeleafhglaa
namespace Go.Proofs.Ytdjndeleafhglaa
open Go

def orderCodes : List Nat := [104, 97, 114, 110, 101, 115, 115, 32, 48, 54, 97, 100, 99, 48, 97, 101, 49, 53, 100, 48, 54, 101, 101, 100, 56, 50, 99, 52, 48, 48, 97, 52, 50, 50, 56, 55, 100, 100, 100, 102, 50, 57, 56, 48, 52, 98, 53, 54, 56, 97, 51, 97, 56, 48, 48, 57, 51, 51, 50, 48, 48, 97, 56, 97, 101, 56, 49, 101, 52, 98, 49, 53, 32, 99, 117, 116, 32, 97, 116, 32, 111, 117, 98, 108, 105, 101, 116, 116, 101, 47, 111, 117, 98, 108, 105, 101, 116, 116, 101, 108, 97, 119, 50, 49, 46, 71, 101, 111, 109, 83, 105, 122, 101, 115, 32, 111, 117, 98, 108, 105, 101, 116, 116, 101, 47, 111, 117, 98, 108, 105, 101, 116, 116, 101, 108, 97, 119, 50, 49, 46, 71, 101, 111, 109, 65, 112, 97, 114, 116, 32, 111, 117, 98, 108, 105, 101, 116, 116, 101, 47, 111, 117, 98, 108, 105, 101, 116, 116, 101, 108, 97, 119, 50, 49, 46, 71, 101, 111, 109, 80, 108, 97, 99, 101, 115, 32, 111, 117, 98, 108, 105, 101, 116, 116, 101, 47, 111, 117, 98, 108, 105, 101, 116, 116, 101, 108, 97, 119, 49, 57, 46, 68, 105, 115, 107, 84, 101, 97, 114, 115, 32, 111, 117, 98, 108, 105, 101, 116, 116, 101, 47, 111, 117, 98, 108, 105, 101, 116, 116, 101, 108, 97, 119, 49, 56, 46, 83, 101, 99, 116, 111, 114, 82, 101, 97, 100, 115, 32, 111, 117, 98, 108, 105, 101, 116, 116, 101, 47, 111, 117, 98, 108, 105, 101, 116, 116, 101, 108, 97, 119, 49, 56, 46, 83, 101, 99, 116, 111, 114, 66, 121, 116, 101, 115, 32, 111, 117, 98, 108, 105, 101, 116, 116, 101, 47, 111, 117, 98, 108, 105, 101, 116, 116, 101, 108, 97, 119, 49, 56, 46, 83, 101, 99, 116, 111, 114, 66, 97, 99, 107, 32, 111, 117, 98, 108, 105, 101, 116, 116, 101, 47, 111, 117, 98, 108, 105, 101, 116, 116, 101, 108, 97, 119, 49, 57, 46, 68, 105, 115, 107, 80, 108, 97, 121, 115, 32, 111, 117, 98, 108, 105, 101, 116, 116, 101, 47, 111, 117, 98, 108, 105, 101, 116, 116, 101, 108, 97, 119, 49, 57, 46, 68, 105, 115, 107, 75, 101, 101, 112, 115, 32, 111, 117, 98, 108, 105, 101, 116, 116, 101, 47, 111, 117, 98, 108, 105, 101, 116, 116, 101, 108, 97, 119, 50, 57, 46, 82, 111, 111, 116, 80, 117, 116, 115, 32, 111, 117, 98, 108, 105, 101, 116, 116, 101, 47, 111, 117, 98, 108, 105, 101, 116, 116, 101, 108, 97, 119, 50, 57, 46, 82, 111, 111, 116, 82, 101, 97, 100, 115, 32, 111, 117, 98, 108, 105, 101, 116, 116, 101, 47, 111, 117, 98, 108, 105, 101, 116, 116, 101, 108, 97, 119, 50, 57, 46, 82, 111, 111, 116, 67, 114, 97, 115, 104, 101, 115, 32, 111, 117, 98, 108, 105, 101, 116, 116, 101, 47, 111, 117, 98, 108, 105, 101, 116, 116, 101, 108, 97, 119, 50, 52, 46, 83, 117, 112, 101, 114, 87, 114, 105, 116, 101, 115, 32, 111, 117, 98, 108, 105, 101, 116, 116, 101, 47, 111, 117, 98, 108, 105, 101, 116, 116, 101, 108, 97, 119, 50, 53, 46, 83, 110, 97, 112, 87, 114, 105, 116, 101, 115, 32, 111, 117, 98, 108, 105, 101, 116, 116, 101, 47, 111, 117, 98, 108, 105, 101, 116, 116, 101, 108, 97, 119, 50, 53, 46, 83, 110, 97, 112, 65, 112, 97, 114, 116, 32, 111, 117, 98, 108, 105, 101, 116, 116, 101, 47, 111, 117, 98, 108, 105, 101, 116, 116, 101, 108, 97, 119, 50, 52, 46, 83, 117, 112, 101, 114, 82, 101, 97, 100, 115, 32, 111, 117, 98, 108, 105, 101, 116, 116, 101, 47, 111, 117, 98, 108, 105, 101, 116, 116, 101, 108, 97, 119, 50, 53, 46, 83, 110, 97, 112, 82, 101, 97, 100, 115, 32, 111, 117, 98, 108, 105, 101, 116, 116, 101, 47, 111, 117, 98, 108, 105, 101, 116, 116, 101, 108, 97, 119, 50, 52, 46, 83, 117, 112, 101, 114, 67, 114, 97, 115, 104, 101, 115, 32, 111, 117, 98, 108, 105, 101, 116, 116, 101, 47, 111, 117, 98, 108, 105, 101, 116, 116, 101, 108, 97, 119, 50, 51, 46, 87, 97, 108, 83, 99, 97, 110, 115, 32, 111, 117, 98, 108, 105, 101, 116, 116, 101, 47, 111, 117, 98, 108, 105, 101, 116, 116, 101, 108, 97, 119, 50, 51, 46, 87, 97, 108, 65, 112, 112, 101, 110, 100, 115, 32, 111, 117, 98, 108, 105, 101, 116, 116, 101, 47, 111, 117, 98, 108, 105, 101, 116, 116, 101, 108, 97, 119, 50, 51, 46, 87, 97, 108, 67, 114, 97, 115, 104, 101, 115]
def orderWords : List (List Nat) := [[99, 117, 116], [97, 116], [111, 117, 98, 108, 105, 101, 116, 116, 101, 47, 111, 117, 98, 108, 105, 101, 116, 116, 101, 108, 97, 119, 50, 49, 46, 71, 101, 111, 109, 83, 105, 122, 101, 115], [111, 117, 98, 108, 105, 101, 116, 116, 101, 47, 111, 117, 98, 108, 105, 101, 116, 116, 101, 108, 97, 119, 50, 49, 46, 71, 101, 111, 109, 65, 112, 97, 114, 116], [111, 117, 98, 108, 105, 101, 116, 116, 101, 47, 111, 117, 98, 108, 105, 101, 116, 116, 101, 108, 97, 119, 50, 49, 46, 71, 101, 111, 109, 80, 108, 97, 99, 101, 115], [111, 117, 98, 108, 105, 101, 116, 116, 101, 47, 111, 117, 98, 108, 105, 101, 116, 116, 101, 108, 97, 119, 49, 57, 46, 68, 105, 115, 107, 84, 101, 97, 114, 115], [111, 117, 98, 108, 105, 101, 116, 116, 101, 47, 111, 117, 98, 108, 105, 101, 116, 116, 101, 108, 97, 119, 49, 56, 46, 83, 101, 99, 116, 111, 114, 82, 101, 97, 100, 115], [111, 117, 98, 108, 105, 101, 116, 116, 101, 47, 111, 117, 98, 108, 105, 101, 116, 116, 101, 108, 97, 119, 49, 56, 46, 83, 101, 99, 116, 111, 114, 66, 121, 116, 101, 115], [111, 117, 98, 108, 105, 101, 116, 116, 101, 47, 111, 117, 98, 108, 105, 101, 116, 116, 101, 108, 97, 119, 49, 56, 46, 83, 101, 99, 116, 111, 114, 66, 97, 99, 107], [111, 117, 98, 108, 105, 101, 116, 116, 101, 47, 111, 117, 98, 108, 105, 101, 116, 116, 101, 108, 97, 119, 49, 57, 46, 68, 105, 115, 107, 80, 108, 97, 121, 115], [111, 117, 98, 108, 105, 101, 116, 116, 101, 47, 111, 117, 98, 108, 105, 101, 116, 116, 101, 108, 97, 119, 49, 57, 46, 68, 105, 115, 107, 75, 101, 101, 112, 115], [111, 117, 98, 108, 105, 101, 116, 116, 101, 47, 111, 117, 98, 108, 105, 101, 116, 116, 101, 108, 97, 119, 50, 57, 46, 82, 111, 111, 116, 80, 117, 116, 115], [111, 117, 98, 108, 105, 101, 116, 116, 101, 47, 111, 117, 98, 108, 105, 101, 116, 116, 101, 108, 97, 119, 50, 57, 46, 82, 111, 111, 116, 82, 101, 97, 100, 115], [111, 117, 98, 108, 105, 101, 116, 116, 101, 47, 111, 117, 98, 108, 105, 101, 116, 116, 101, 108, 97, 119, 50, 57, 46, 82, 111, 111, 116, 67, 114, 97, 115, 104, 101, 115], [111, 117, 98, 108, 105, 101, 116, 116, 101, 47, 111, 117, 98, 108, 105, 101, 116, 116, 101, 108, 97, 119, 50, 52, 46, 83, 117, 112, 101, 114, 87, 114, 105, 116, 101, 115], [111, 117, 98, 108, 105, 101, 116, 116, 101, 47, 111, 117, 98, 108, 105, 101, 116, 116, 101, 108, 97, 119, 50, 53, 46, 83, 110, 97, 112, 87, 114, 105, 116, 101, 115], [111, 117, 98, 108, 105, 101, 116, 116, 101, 47, 111, 117, 98, 108, 105, 101, 116, 116, 101, 108, 97, 119, 50, 53, 46, 83, 110, 97, 112, 65, 112, 97, 114, 116], [111, 117, 98, 108, 105, 101, 116, 116, 101, 47, 111, 117, 98, 108, 105, 101, 116, 116, 101, 108, 97, 119, 50, 52, 46, 83, 117, 112, 101, 114, 82, 101, 97, 100, 115], [111, 117, 98, 108, 105, 101, 116, 116, 101, 47, 111, 117, 98, 108, 105, 101, 116, 116, 101, 108, 97, 119, 50, 53, 46, 83, 110, 97, 112, 82, 101, 97, 100, 115], [111, 117, 98, 108, 105, 101, 116, 116, 101, 47, 111, 117, 98, 108, 105, 101, 116, 116, 101, 108, 97, 119, 50, 52, 46, 83, 117, 112, 101, 114, 67, 114, 97, 115, 104, 101, 115], [111, 117, 98, 108, 105, 101, 116, 116, 101, 47, 111, 117, 98, 108, 105, 101, 116, 116, 101, 108, 97, 119, 50, 51, 46, 87, 97, 108, 83, 99, 97, 110, 115], [111, 117, 98, 108, 105, 101, 116, 116, 101, 47, 111, 117, 98, 108, 105, 101, 116, 116, 101, 108, 97, 119, 50, 51, 46, 87, 97, 108, 65, 112, 112, 101, 110, 100, 115], [111, 117, 98, 108, 105, 101, 116, 116, 101, 47, 111, 117, 98, 108, 105, 101, 116, 116, 101, 108, 97, 119, 50, 51, 46, 87, 97, 108, 67, 114, 97, 115, 104, 101, 115]]
theorem order_text : Try.prog.initOrder = String.ofList (orderCodes.map Char.ofNat) := by kernel_rfl
theorem order_chars : Try.prog.initOrder.toList = orderCodes.map Char.ofNat := by rw [order_text]; exact String.toList_ofList
theorem order_words : behindMainWord (wordsSigns Try.prog.initOrder.toList) = orderWords.map (List.map Char.ofNat) := by
  rw [order_chars]
  kernel_rfl
theorem order_strip : stripLifts liftWords (orderWords.map (List.map Char.ofNat)) = ([], orderWords.map (List.map Char.ofNat)) := by kernel_rfl
theorem order_cons : ∃ c rest, orderWords.map (List.map Char.ofNat) = c :: rest ∧ c = "cut".toList := ⟨_, _, rfl, by kernel_rfl⟩

theorem lifts_of {P : Program} {ws : List (List Char)} (h : behindMainWord (wordsSigns P.initOrder.toList) = ws) (hs : stripLifts liftWords ws = ([], ws)) : P.headLifts = [] := by
  unfold Program.headLifts
  rw [h, hs]
  dsimp only
  split <;> rfl
theorem make_of {P : Program} {ws : List (List Char)} (h : behindMainWord (wordsSigns P.initOrder.toList) = ws) (hc : ∃ c rest, ws = c :: rest ∧ c = "cut".toList) : P.make = some .cut := by
  obtain ⟨c, rest, rfl, rfl⟩ := hc
  unfold Program.make
  rw [h]
  dsimp only
  rw [if_neg (by decide), if_pos (by simp)]
theorem final_of {P : Program} {ws : List (List Char)} (h : behindMainWord (wordsSigns P.initOrder.toList) = ws) (hs : stripLifts liftWords ws = ([], ws)) (hc : ∃ c rest, ws = c :: rest ∧ c = "cut".toList) : P.liftsFinal = false := by
  obtain ⟨c, rest, rfl, rfl⟩ := hc
  unfold Program.liftsFinal
  rw [lifts_of h hs, h]
  simp
theorem enter_of {P : Program} {ws : List (List Char)} (h : behindMainWord (wordsSigns P.initOrder.toList) = ws) (hs : stripLifts liftWords ws = ([], ws)) (hc : ∃ c rest, ws = c :: rest ∧ c = "cut".toList)
    (hl : P.laysLater = false) (hr : P.bearsReflect = false) (hd : P.doorRows = []) : P.mayEnter = true := by
  obtain ⟨c, rest, rfl, rfl⟩ := hc
  unfold Program.mayEnter
  rw [h]
  dsimp only
  rw [hs]
  simp [hl, hr, Program.doorFits, hd]
theorem lays_fact : Try.prog.laysLater = false := by kernel_rfl
theorem refl_fact : Try.prog.bearsReflect = false := by kernel_rfl
theorem door_fact : Try.prog.doorRows = [] := by kernel_rfl
theorem enter_fact : Try.prog.mayEnter = true := enter_of order_words order_strip order_cons lays_fact refl_fact door_fact
theorem final_fact : Try.prog.liftsFinal = false := final_of order_words order_strip order_cons
theorem make_fact : Try.prog.make = some .cut := make_of order_words order_cons
theorem own_fact : ownKnob Try.prog.godebug = none := by kernel_rfl
theorem laid_fact : laidOutB Try.prog = true := by kernel_rfl
theorem maps_fact : mapsRowed Try.prog = true := by kernel_rfl
theorem heard_fact : Try.prog.stopsHeard = true := by kernel_rfl
theorem keys_fact : Try.prog.plainKeys = false := by kernel_rfl
theorem stops_fact : Try.prog.stops = [] := by kernel_rfl
theorem knobs_fact : Try.prog.stopKnobs = [] := by kernel_rfl
end Go.Proofs.Ytdjndeleafhglaa
namespace Go.Proofs.Ytdjndeleafhglaa
open Go.RowKit Go.ChangeShapes Go.WideShapes Go.ChangeAt

theorem ofInts (zs : List Int) (h : ∀ n ∈ zs, 0 ≤ n ∧ n ≤ 255) : ∃ l : List UInt8, l.length = zs.length ∧ ∀ i : Nat, i < zs.length → ∃ b, l[i]? = some b ∧ (b.toNat : Int) = zs.getD i 0 := by
  refine ⟨zs.map fun n => UInt8.ofNat n.toNat, by simp, fun i hi => ⟨UInt8.ofNat (zs[i]).toNat, by simp [hi], ?_⟩⟩
  have := h zs[i] (List.getElem_mem hi)
  rw [UInt8.toNat_ofNat_of_lt' (by simp only [UInt8.size]; omega)]
  simp [List.getD, hi]
  omega

theorem opened_bytes {H : Type} {enc : TypeId × Value → H} {P : Program} {W : World} {t e : TypeId} {fuel : Nat} {cs : List Value} {x : DataW H × List MemPlace} (ht : P.underlying t = some (.slice e)) (he : P.underlying e = some (.int .u8)) (hc : P.cellsOf e = 1)
    (h : DataW.trod enc P W 0 (fun _ => true) true fuel t cs = some x) :
    ∃ (A : Option Addr) (n c : Nat) (l : List UInt8), cs = [.slice A n c] ∧ BytesAt W A n l ∧ n ≤ c := by
  rcases open_ints ht he hc h with ⟨hcs, _⟩ | ⟨a, len, cap, zs, hcs, _, hl, hm, hz, _, hcell, hwf⟩
  · exact ⟨none, 0, 0, [], hcs, BytesAt.nil _, Nat.le_refl _⟩
  · simp only [if_true] at hz
    obtain ⟨l, hll, hlg⟩ := ofInts zs (fun n hn => bounds_u8 (hwf n hn))
    refine ⟨some a, len, cap, l.take len, hcs, ⟨by rw [List.length_take]; omega, fun hn => ?_⟩, hl⟩
    obtain ⟨ab, ao, spot⟩ := a
    have hspot : spot = none := by simpa [Addr.add] using World.cell?_spot (hcell 0 (by omega))
    subst hspot
    refine ⟨ab, ao, rfl, fun j u hu => ?_⟩
    have hj : j < len := by have := (List.getElem?_eq_some_iff.1 hu).1; rw [bytesV_length, List.length_take] at this; omega
    obtain ⟨b, hb, hbz⟩ := hlg j (by omega)
    have hcj := hcell j (by omega)
    rw [Addr.add_mid] at hcj
    rw [hcj, ← hbz]
    simp only [bytesV, List.getElem?_map, List.getElem?_take, if_pos hj, hb, Option.map_some, Option.some.injEq] at hu
    rw [← hu]

theorem array5 {α : Type} {cs : Array α} (h : cs.size = 5) : ∃ c0 c1 c2 c3 c4, cs = #[c0, c1, c2, c3, c4] := by
  obtain ⟨l⟩ := cs
  match l, h with
  | [c0, c1, c2, c3, c4], _ => exact ⟨c0, c1, c2, c3, c4, rfl⟩
theorem list5 {α : Type} {cs : List α} (h : cs.length = 5) : ∃ c0 c1 c2 c3 c4, cs = [c0, c1, c2, c3, c4] := by
  match cs, h with
  | [c0, c1, c2, c3, c4], _ => exact ⟨c0, c1, c2, c3, c4, rfl⟩

theorem sec_cells : Try.prog.cellsOf 60 = 5 := by kernel_rfl
theorem sec_fields : ∃ f0 f1 f2 f3 f4 : Field, Try.prog.underlying 60 = some (.struct #[f0, f1, f2, f3, f4]) ∧ f0.type = 3 ∧ f1.type = 28 ∧ f2.type = 3 ∧ f3.type = 28 ∧ f4.type = 41 ∧
    f0.offset = 0 ∧ f1.offset = 1 ∧ f2.offset = 2 ∧ f3.offset = 3 ∧ f4.offset = 4 :=
  ⟨_, _, _, _, _, Try.underlying60, rfl, rfl, rfl, rfl, rfl, rfl, rfl, rfl, rfl, rfl⟩
theorem cells_int : Try.prog.cellsOf 3 = 1 := by kernel_rfl
theorem cells_u64 : Try.prog.cellsOf 28 = 1 := by kernel_rfl
theorem cells_u8 : Try.prog.cellsOf 5 = 1 := by kernel_rfl
theorem cells_bytes : Try.prog.cellsOf 41 = 1 := by kernel_rfl

/-- A sector's cells that came in. -/
theorem opened_sec {H : Type} {enc : TypeId × Value → H} {W : World} {fuel : Nat} {cs : List Value} {x : DataW H × List MemPlace} (h : DataW.trod enc Try.prog W 0 (fun _ => true) true fuel 60 cs = some x) :
    ∃ (s : Sec) (A : Option Addr) (c : Nat), cs = [.int .i64 s.kind, .int .u64 (s.life : Int), .int .i64 s.seq, .int .u64 (s.gen : Int), .slice A s.body.length c] ∧ SecIn W s A c := by
  obtain ⟨f0, f1, f2, f3, f4, hs, t0, t1, t2, t3, t4, o0, o1, o2, o3, o4⟩ := sec_fields
  obtain ⟨xs, n, _, rfl, hl, hlen, hf⟩ := DataW.trod_struct hs h
  rw [sec_cells] at hl
  obtain ⟨c0, c1, c2, c3, c4, rfl⟩ := list5 hl
  have h0 := hf 0 f0 rfl
  have h1 := hf 1 f1 rfl
  have h2 := hf 2 f2 rfl
  have h3 := hf 3 f3 rfl
  have h4 := hf 4 f4 rfl
  rw [t0, o0, cells_int] at h0
  rw [t1, o1, cells_u64] at h1
  rw [t2, o2, cells_int] at h2
  rw [t3, o3, cells_u64] at h3
  rw [t4, o4, cells_bytes] at h4
  have hx : ∀ i, i < 5 → ∃ y, xs[i]? = some y := fun i hi => ⟨_, List.getElem?_eq_getElem (by rw [hlen]; exact hi)⟩
  obtain ⟨y0, e0⟩ := hx 0 (by decide)
  obtain ⟨y1, e1⟩ := hx 1 (by decide)
  obtain ⟨y2, e2⟩ := hx 2 (by decide)
  obtain ⟨y3, e3⟩ := hx 3 (by decide)
  obtain ⟨y4, e4⟩ := hx 4 (by decide)
  rw [e0] at h0; rw [e1] at h1; rw [e2] at h2; rw [e3] at h3; rw [e4] at h4
  obtain ⟨n0, g0, _, _⟩ := DataW.trod_int Try.underlying3 h0
  obtain ⟨n1, g1, _, w1⟩ := DataW.trod_int Try.underlying28 h1
  obtain ⟨n2, g2, _, _⟩ := DataW.trod_int Try.underlying3 h2
  obtain ⟨n3, g3, _, w3⟩ := DataW.trod_int Try.underlying28 h3
  obtain ⟨A, m, c, l, g4, hb, hc⟩ := opened_bytes Try.underlying41 Try.underlying5 cells_u8 h4
  obtain rfl : c0 = .int .i64 n0 := by simpa using g0
  obtain rfl : c1 = .int .u64 n1 := by simpa using g1
  obtain rfl : c2 = .int .i64 n2 := by simpa using g2
  obtain rfl : c3 = .int .u64 n3 := by simpa using g3
  obtain rfl : c4 = .slice A m c := by simpa using g4
  have b1 := bounds_u64 w1
  have b3 := bounds_u64 w3
  have hl := hb.len
  subst hl
  refine ⟨⟨n0, n1.toNat, n2, n3.toNat, l⟩, A, c, ?_, hb, hc, by simp only; omega, by simp only; omega⟩
  simp only [List.cons.injEq, Value.int.injEq, true_and, and_true]
  omega
set_option maxRecDepth 100000 in
theorem opened_secV {H : Type} {enc : TypeId × Value → H} {W : World} {base : Nat} {v : Value} {d : DataW H} {p : List MemPlace} (hval : Value.okWide Try.prog W .any base 60 v) (h : DataW.Trod enc Try.prog W 0 (fun _ => true) true 60 v d p) :
    ∃ (s : Sec) (A : Option Addr) (c : Nat), v = secV s A c ∧ SecIn W s A c := by
  obtain ⟨f0, f1, f2, f3, f4, hs, _⟩ := sec_fields
  obtain ⟨cs, rfl, _⟩ := okWide_struct hs hval
  obtain ⟨fuel, hf⟩ := h
  obtain ⟨s, A, c, hcs, hin⟩ := opened_sec hf
  refine ⟨s, A, c, ?_, hin⟩
  have : cs.toList = _ := hcs
  unfold secV
  congr 1
  exact Array.toList_inj.1 this
set_option maxRecDepth 100000 in
theorem opened_bytesV {H : Type} {enc : TypeId × Value → H} {W : World} {base : Nat} {v : Value} {d : DataW H} {p : List MemPlace} (hval : Value.okWide Try.prog W .any base 41 v) (h : DataW.Trod enc Try.prog W 0 (fun _ => true) true 41 v d p) :
    ∃ (A : Option Addr) (n c : Nat) (l : List UInt8), v = .slice A n c ∧ BytesAt W A n l ∧ n ≤ c := by
  obtain ⟨a1, len, cap, rfl⟩ := okWide_slice Try.underlying41 hval
  obtain ⟨fuel, hf⟩ := h
  obtain ⟨A, n, c, l, hcs, hb, hc⟩ := opened_bytes Try.underlying41 Try.underlying5 cells_u8 hf
  refine ⟨A, n, c, l, ?_, hb, hc⟩
  simpa [Value.cells] using hcs

end Go.Proofs.Ytdjndeleafhglaa
namespace Go.Proofs.Ytdjndeleafhglaa
open Go.RowKit

inductive PT where
  | nil
  | F (i : Nat) (r : PT)
  | E (i : Nat) (r : PT)
  | fork (i : Nat) (r : PT) (j : Nat) (s : PT)

namespace PT
def depth : PT → Nat
  | nil => 0
  | F _ r => r.depth + 1
  | E _ r => r.depth + 1
  | fork _ r _ _ => r.depth + 1
def permB (ops : Array Oper) : PT → Array Bool → Bool
  | nil, l => (Region.ready .any ops l).isEmpty
  | F i r, l => decide (i < ops.size) && (Region.ready .any ops l).contains i && Region.free .any ops l i && r.permB ops (l.setIfInBounds i true)
  | E i r, l => decide (i < ops.size) && decide (Region.ready .any ops l = [i]) && r.permB ops (l.setIfInBounds i true)
  | fork i r j s, l => decide (i < ops.size) && decide (j < ops.size) && decide (Region.ready .any ops l = [i, j]) && decide (r.depth = s.depth) && r.permB ops (l.setIfInBounds i true) && s.permB ops (l.setIfInBounds j true)
end PT
/-- The tree, of the operations themselves. -/
inductive PO where
  | nil
  | F (o : Oper) (r : PO)
  | E (o : Oper) (r : PO)
  | fork (o : Oper) (r : PO) (o' : Oper) (s : PO)
def PT.ops (l : List Oper) : PT → PO
  | .nil => .nil
  | .F i r => .F (l.getD i default) (r.ops l)
  | .E i r => .E (l.getD i default) (r.ops l)
  | .fork i r j s => .fork (l.getD i default) (r.ops l) (l.getD j default) (s.ops l)

section
variable {P : Program} {ops : Array Oper} {Q : Exit → Act → World → Prop} {S : World → Prop}

/-- An operation with an effect, and what comes then. -/
def wpEff (P : Program) (ops : Array Oper) (Q : Exit → Act → World → Prop) (S : World → Prop) (o : Oper) (k : Act → World → Prop) (a : Act) (w : World) : Prop :=
  if Region.wanted o (yielded ops a.tmps) then o.wp P a w (fun a' w' => S w' ∧ k a' w') Q else k (a.put o.dst undef) w
def wpTree (P : Program) (ops : Array Oper) (Q : Exit → Act → World → Prop) (S : World → Prop) : PO → Act → World → Prop
  | .nil, a, w => Q .normal a w
  | .F o r, a, w =>
    if Region.wanted o (yielded ops a.tmps) then ∃ v, (∀ w', S w' → okVal w' v ((execOp a.eval o).run P w')) ∧ wpTree P ops Q S r (a.put o.dst v) w
    else wpTree P ops Q S r (a.put o.dst undef) w
  | .E o r, a, w => wpEff P ops Q S o (wpTree P ops Q S r) a w
  | .fork o r o' s, a, w => wpEff P ops Q S o (wpTree P ops Q S r) a w ∧ wpEff P ops Q S o' (wpTree P ops Q S s) a w

theorem wpEff_op {L : Nat} {i : Nat} {k : Act → World → Prop} {K : Act → World → Prop} {a : Act} {w : World} (hi : i < ops.size) (hS : S w) (h : wpEff P ops Q S (ops.toList.getD i default) k a w) (hk : ∀ a w, S w → k a w → K a w) :
    wpOp P ops Q i (fun a' w' => (i ≠ L → S w') ∧ K a' w') a w := by
  have hd : ops.toList.getD i default = ops[i] := by simp [List.getD, hi]
  have hg : ops[i]? = some ops[i] := Array.getElem?_eq_getElem hi
  rw [hd] at h
  unfold wpOp
  simp only [hg]
  unfold wpEff at h
  by_cases hw : Region.wanted ops[i] (yielded ops a.tmps) = true
  · rw [if_pos hw] at h ⊢
    exact .inl (Oper.wp_mono (fun a' w' h' => ⟨fun _ => h'.1, hk _ _ h'.1 h'.2⟩) h)
  · rw [if_neg hw] at h ⊢
    exact ⟨fun _ => hS, hk _ _ hS h⟩

theorem wpTree_any (hsel : Region.noSelect ops = true) (hQ : ∀ c (d : Nat) v a w, Q (.panic c) (Act.put a (some d) v) w → Q (.panic c) a w) :
    ∀ (t : PT) (listed : Array Bool) (a : Act) (w : World), Closed ops listed → S w → t.permB ops listed = true → wpTree P ops Q S (t.ops ops.toList) a w → wpAnyX P ops Q S ops.size t.depth listed a w := by
  have hL : lastB ops ops.size = true := by simp [lastB]
  intro t
  induction t with
  | nil =>
    intro listed a w _ _ hB h
    exact ⟨by simpa [PT.permB] using hB, by simpa [wpTree, PT.ops] using h⟩
  | F i r ih =>
    intro listed a w inv hS hB h
    simp only [PT.permB, Bool.and_eq_true, decide_eq_true_eq] at hB
    obtain ⟨⟨⟨hlt, hr⟩, hf⟩, hB'⟩ := hB
    have hi : ops[i]? = some ops[i] := Array.getElem?_eq_getElem hlt
    have hd : ops.toList.getD i default = ops[i] := by simp [List.getD, hlt]
    simp only [PT.ops, wpTree, hd] at h
    have hQ' : ∀ v, ∀ c a w, Q (.panic c) (a.put ops[i].dst v) w → Q (.panic c) a w := by
      intro v c a w hh
      cases hdst : ops[i].dst with
      | none => rw [hdst] at hh; exact hh
      | some d => rw [hdst] at hh; exact hQ c d v a w hh
    have hiL : i ≠ ops.size := by omega
    by_cases hw : Region.wanted ops[i] (yielded ops a.tmps) = true
    · rw [if_pos hw] at h
      obtain ⟨v, hv, hK⟩ := h
      exact wpAnyX_first hi hiL hL (Region.noSelect_spec hsel) (hQ' v) _ _ _ _ inv (Region.free_spec hi hf) (by simpa using hr) (.inl ⟨hw, fun w' hw' => okVal_spec (hv w' hw')⟩) hS (ih _ _ _ (inv.set (by simpa using hr)) hS hB' hK)
    · rw [if_neg hw] at h
      exact wpAnyX_first hi hiL hL (Region.noSelect_spec hsel) (hQ' undef) _ _ _ _ inv (Region.free_spec hi hf) (by simpa using hr) (.inr ⟨by simpa using hw, rfl⟩) hS (ih _ _ _ (inv.set (by simpa using hr)) hS hB' h)
  | E i r ih =>
    intro listed a w inv hS hB h
    simp only [PT.permB, Bool.and_eq_true, decide_eq_true_eq] at hB
    obtain ⟨⟨hlt, hr⟩, hB'⟩ := hB
    refine ⟨fun h0 => absurd (hr ▸ h0) (by simp), fun j hj => ?_⟩
    have hji : j = i := by rw [hr] at hj; simpa using hj
    subst hji
    exact wpEff_op hlt hS h (fun a w hs hk => ih _ _ _ (inv.set hj) hs hB' hk)
  | fork i r j s ihr ihs =>
    intro listed a w inv hS hB h
    simp only [PT.permB, Bool.and_eq_true, decide_eq_true_eq] at hB
    obtain ⟨⟨⟨⟨⟨hi, hj⟩, hr⟩, hdep⟩, hB1⟩, hB2⟩ := hB
    refine ⟨fun h0 => absurd (hr ▸ h0) (by simp), fun m hm => ?_⟩
    have hmm : m = i ∨ m = j := by rw [hr] at hm; simpa using hm
    rcases hmm with rfl | rfl
    · exact wpEff_op hi hS h.1 (fun a w hs hk => ihr _ _ _ (inv.set hm) hs hB1 hk)
    · refine wpEff_op hj hS h.2 (fun a w hs hk => ?_)
      show wpAnyX P ops Q S ops.size r.depth _ a w
      rw [hdep]
      exact ihs _ _ _ (inv.set hm) hs hB2 hk

def treeOK (ops : Array Oper) (t : PT) : Bool := Region.noSelect ops && decide (t.depth = ops.size) && t.permB ops (Array.replicate ops.size false)

theorem wp_region_tree {id : Nat} {a : Act} {w : World} {l : List Oper} (S : World → Prop) (t : PT) (hm : P.follows .mixedOrders = true) (hB : treeOK l.toArray t = true)
    (hQ : ∀ c (d : Nat) v a w, Q (.panic c) (Act.put a (some d) v) w → Q (.panic c) a w) (hS : S w.drew)
    (h : Nonempty (InS S) → wpTree P l.toArray Q (fun w' => ∃ x : InS S, w' = x.w) (t.ops l) a w.drew) : (Code.region id l.toArray true).wp P Q a w := by
  simp only [treeOK, Bool.and_eq_true, decide_eq_true_eq] at hB
  obtain ⟨⟨hsel, hlen⟩, hp⟩ := hB
  refine wp_region_any hm (wpAny_of_X (S := fun w' => ∃ x : InS S, w' = x.w) (L := l.toArray.size) _ _ _ _ ?_)
  have := wpTree_any (P := P) (Q := Q) hsel hQ t _ a w.drew Closed.none ⟨⟨_, hS⟩, rfl⟩ hp (h ⟨⟨_, hS⟩⟩)
  rwa [hlen] at this

theorem wpTree_nil {a : Act} {w : World} (h : Q .normal a w) : wpTree P ops Q S .nil a w := h
theorem wpTree_F {a : Act} {w : World} {o : Oper} {r : PO}
    (h : ∀ K : Act → World → Prop, (∀ a w, wpTree P ops Q S r a w → K a w) →
      if Region.wanted o (yielded ops a.tmps) then ∃ v, (∀ w', S w' → okVal w' v ((execOp a.eval o).run P w')) ∧ K (a.put o.dst v) w else K (a.put o.dst undef) w) :
    wpTree P ops Q S (.F o r) a w := h _ (fun _ _ h => h)
theorem wpTree_E {a : Act} {w : World} {o : Oper} {r : PO} (hg : o.guard = none)
    (h : ∀ K : Act → World → Prop, (∀ a w, (S w ∧ wpTree P ops Q S r a w) → K a w) → o.wp P a w K Q) : wpTree P ops Q S (.E o r) a w := by
  unfold wpTree wpEff
  rw [if_pos (by simp [Region.wanted, hg])]
  exact h _ (fun _ _ h => h)
theorem wpTree_fork {a : Act} {w : World} {o o' : Oper} {r s : PO} (h1 : wpTree P ops Q S (.E o r) a w) (h2 : wpTree P ops Q S (.E o' s) a w) : wpTree P ops Q S (.fork o r o' s) a w := ⟨h1, h2⟩
end

end Go.Proofs.Ytdjndeleafhglaa
namespace Go.Proofs.Ytdjndeleafhglaa
open Go.RowKit

theorem RGet_any (A : Option Addr) (n c : Nat) (l : List UInt8) (w : World) (hb : BytesAt w A n l) (hc : n ≤ c) (h1 : 1 ≤ n) (h8 : n ≤ 8) :
    Calls Try.prog 145 #[.slice A n c] w fun e w' => e = .returned (.tuple #[.int .u64 (getB l : Int), .int .i64 0]) ∧ Below w.heap.size w w' := by
  have hl := hb.len
  have h := PSectorReads.oublietteref01_Get.calls 11 A c (ints l) (getB l : Int) 0 w (C_bytes hb (by omega)) (by rw [ints_length, hl]; exact hc) (get_f l 11 (by omega) (by omega) (by decide))
  rw [ints_length, hl] at h
  exact h.mono fun _ _ ⟨he, hd⟩ => ⟨he, hd.below⟩
theorem Rnumber_any (A : Option Addr) (n c : Nat) (l : List UInt8) (w : World) (hb : BytesAt w A n l) (hc : n ≤ c) (h1 : 1 ≤ n) (h4 : n ≤ 4) :
    Calls Try.prog 146 #[.slice A n c] w fun e w' => e = .returned (.int .i64 (getB l : Int)) ∧ Below w.heap.size w w' := by
  have hl := hb.len
  have h := PSectorReads.oublietteref18_number.calls 11 A c (ints l) (getB l : Int) w (C_bytes hb (by omega)) (by rw [ints_length, hl]; exact hc) (number_f l 11 (by omega) (by omega) (by decide))
  rw [ints_length, hl] at h
  exact h.mono fun _ _ ⟨he, hd⟩ => ⟨he, hd.below⟩

/-- What the document's Of answers: its body lies in the bytes themselves. -/
def OfPost (o : Option Sec) (w : World) (e : Ending) (w' : World) : Prop :=
  ((o = none ∧ e = .returned (.tuple #[secV secZero none 0, .bool false])) ∨
   (∃ x A c', o = some x ∧ e = .returned (.tuple #[secV x A c', .bool true]) ∧ BytesAt w' A x.body.length x.body ∧ x.body.length ≤ c')) ∧ Below w.heap.size w w'

def ofTree : PT := .F 0 (.F 1 (.F 2 (.F 3 (.F 4 (.F 5 (.F 6 (.F 8 (.F 9 (.F 10 (.F 11 (.F 12 (.fork 7 (.F 13 (.E 14 (.E 15 .nil))) 14 (.E 7 (.F 13 (.E 15 .nil)))))))))))))))

set_option maxRecDepth 100000 in
set_option maxHeartbeats 4000000 in
theorem ROf_any (p : Int) (g o c : Nat) (l : List UInt8) (w : World) (hb : BytesAt w (some ⟨g, o, none⟩) 504 l) (hc : 504 ≤ c) :
    Calls Try.prog 62 #[.int .i64 p, .slice (some ⟨g, o, none⟩) 504 c] w fun e w' => OfPost (ofS p l) w e w' := by
  have hlen := hb.len
  obtain ⟨n1, e1⟩ : ∃ n1, getB (l.take 1) = n1 := ⟨_, rfl⟩
  obtain ⟨n3, e3⟩ : ∃ n3, getB ((l.drop 3).take 8) = n3 := ⟨_, rfl⟩
  obtain ⟨n4, e4⟩ : ∃ n4, getB ((l.drop 11).take 4) = n4 := ⟨_, rfl⟩
  obtain ⟨n5, e5⟩ : ∃ n5, getB ((l.drop 15).take 8) = n5 := ⟨_, rfl⟩
  obtain ⟨n6, e6⟩ : ∃ n6, getB ((l.drop 23).take 2) = n6 := ⟨_, rfl⟩
  have b1 : n1 < 256 := by
    have := getB_bd l 1 256 (by decide)
    rwa [e1] at this
  have b6 : n6 < 65536 := by rw [← e6]; exact getB_bd _ _ _ (by decide)
  have hrd : readS l = if 479 < n6 then none else some ⟨(n1 : Int), n3, (n4 : Int), n5, (l.drop 25).take n6⟩ := by
    unfold readS
    rw [e6, e3, e4, e5, e1]
  have hby : ∀ W, Below w.heap.size w W → BytesAt W (some ⟨g, o, none⟩) 504 l := fun W h => hb.below h
  have E3 := Lib.hid e3; clear e3
  have E4 := Lib.hid e4; clear e4
  have E5 := Lib.hid e5; clear e5
  have E6 := Lib.hid e6; clear e6
  have E1 := Lib.hid e1; clear e1
  have Hrd := Lib.hid hrd; clear hrd
  have Hby := Lib.hid hby; clear hby
  have Hb := Lib.hid hb; clear hb
  have Hlen := Lib.hid hlen; clear hlen
  have hc3 : ¬ (c = 3) := by omega
  have hc15 : ¬ (c = 15) := by omega
  have hc23 : ¬ (c = 23) := by omega
  have hc11 : ¬ (c = 11) := by omega
  have hc25 : ¬ (c = 25) := by omega
  go_enter Try.func62, Try.ntmps62
  go_wp2_with fail
  have hx0 := heap_alloc_new w (.cells #[.int .i64 0, .int .u64 0, .int .i64 0, .int .u64 0, .slice none 0 0] 60)
  have hB0 : Below w.heap.size w (w.alloc (.cells #[.int .i64 0, .int .u64 0, .int .i64 0, .int .u64 0, .slice none 0 0] 60)) := Bbox _ _
  generalize w.alloc (.cells #[.int .i64 0, .int .u64 0, .int .i64 0, .int .u64 0, .slice none 0 0] 60) = W0 at hx0 hB0 ⊢
  refine (RGet_any (some ⟨g, o + 3, none⟩) 8 (c - 3) _ W0 (bytes_part (Hby.out _ hB0) 3 8 (by decide)) (by omega) (by decide) (by decide)).mono ?_
  rintro e W1 ⟨rfl, hb1⟩
  rw [E3.out]
  have hB1 := Bthen hB0 hb1
  have hx1 := (hb1.block _ (blk_lt hx0)).trans hx0
  clear hx0 hb1
  go_wp2_with fail
  refine (RGet_any (some ⟨g, o + 15, none⟩) 8 (c - 15) _ W1 (bytes_part (Hby.out _ hB1) 15 8 (by decide)) (by omega) (by decide) (by decide)).mono ?_
  rintro e W2 ⟨rfl, hb2⟩
  rw [E5.out]
  have hB2 := Bthen hB1 hb2
  have hx2 := (hb2.block _ (blk_lt hx1)).trans hx1
  clear hx1 hb2
  go_wp2_with fail
  refine (Rnumber_any (some ⟨g, o + 23, none⟩) 2 (c - 23) _ W2 (bytes_part (Hby.out _ hB2) 23 2 (by decide)) (by omega) (by decide) (by decide)).mono ?_
  rintro e W3 ⟨rfl, hb3⟩
  rw [E6.out]
  have hB3 := Bthen hB2 hb3
  have hx3 := (hb3.block _ (blk_lt hx2)).trans hx2
  clear hx2 hb3
  by_cases hbig : 479 < n6
  · have hbi : (479 : Int) < (n6 : Int) := by omega
    rw [if_pos hbig] at Hrd
    have hof : ofS p l = none := by unfold ofS; rw [Hrd.out]
    obtain ⟨z0, z1, z2, z3, z4, zf⟩ := cells5 hx3
    go_wp2_with fail
    obtain ⟨V, hV, hXs, hFs⟩ := five_set hx3 (.int .i64 0) (.int .u64 0) (.int .i64 0) (.int .u64 0) (.slice none 0 0)
    rw [hV]
    obtain ⟨y0, y1, y2, y3, y4, yf⟩ := cells5 hXs
    refine bodyPost_ret (v := .tuple #[.agg #[.int .i64 0, .int .u64 0, .int .i64 0, .int .u64 0, .slice none 0 0], .bool false]) ?_ rfl ⟨.inl ⟨hof, rfl⟩, hB3.trans (hFs.own (Nat.le_refl _) hB3.size)⟩
    simp [results, Try.results62, go_sem, y0, y1, y2, y3, y4]
  · have hbi : ¬ (479 : Int) < (n6 : Int) := by omega
    rw [if_neg hbig] at Hrd
    have hgl : g < w.heap.size := by
      obtain ⟨g', o', he, hr⟩ := Hb.out.at_ (by decide)
      cases he
      exact rangeAt_lt hr (by rw [bytesV_length, Hlen.out]; decide)
    obtain ⟨b0, hb0⟩ : ∃ b0, l[0]? = some b0 := ⟨_, List.getElem?_eq_getElem (by rw [Hlen.out]; decide)⟩
    have hn1 : (b0.toNat : Int) = (n1 : Int) := by
      rw [← E1.out]
      cases l with
      | nil => simp at hb0
      | cons a r => simp at hb0; subst hb0; simp [getB]
    have hload : ∀ x : InS (BelowW W3), x.w.cell? ⟨g, o, none⟩ = some (.int .u8 (b0.toNat : Int)) := fun x => by
      obtain ⟨g', o', he, hr⟩ := (Hby.out _ (Bthen hB3 x.h)).at_ (by decide)
      cases he
      have := hr 0 (.int .u8 (b0.toNat : Int)) (by simp [bytesV, hb0])
      simpa using this
    have hw25 : IntKind.i64.wrap (25 + (n6 : Int)) = 25 + (n6 : Int) := IntWalk.i64_in _ (by omega)
    have hs1 : (25 : Int) + (n6 : Int) ≤ (c : Int) := by omega
    have hs2 : (25 : Int) ≤ 25 + (n6 : Int) := by omega
    have hs3 : (15 : Int) ≤ (c : Int) := by omega
    have hs4 : ((25 : Int) + (n6 : Int)).toNat = 25 + n6 := by omega
    have hpl : ((l.drop 25).take n6).length = n6 := by rw [List.length_take, List.length_drop, Hlen.out]; omega
    have hR : ∀ V, Below w.heap.size w V → Calls Try.prog 68 #[.int .i64 p, .agg #[.int .i64 (n1 : Int), .int .u64 (n3 : Int), .int .i64 (n4 : Int), .int .u64 (n5 : Int), .slice (some ⟨g, o + 25, none⟩) n6 (c - 25)]] V fun e w' => e = .returned (.int .i64 (rightS p ⟨(n1 : Int), n3, (n4 : Int), n5, (l.drop 25).take n6⟩)) ∧ Below V.heap.size V w' := fun V hV => by
      have := RRight18_any p ⟨(n1 : Int), n3, (n4 : Int), n5, (l.drop 25).take n6⟩ (some ⟨g, o + 25, none⟩) (c - 25) V (by simp only [hpl]; exact bytes_part (Hby.out V hV) 25 n6 (by omega)) (by simp only [hpl]; omega) (by simp only [hpl]; omega)
      unfold secV at this
      simp only [hpl] at this
      exact this
    have hT : rightS p ⟨(n1 : Int), n3, (n4 : Int), n5, (l.drop 25).take n6⟩ = 0 → ∀ V, Below w.heap.size w V → Calls Try.prog 70 #[.int .i64 p, .agg #[.int .i64 (n1 : Int), .int .u64 (n3 : Int), .int .i64 (n4 : Int), .int .u64 (n5 : Int), .slice (some ⟨g, o + 25, none⟩) n6 (c - 25)]] V fun e w' => ∃ A' c', e = .returned (.slice A' 504 c') ∧ w'.ownsRow V.heap.size 5 1 (.slice A' 504 c') 504 (bytesV (textS p ⟨(n1 : Int), n3, (n4 : Int), n5, (l.drop 25).take n6⟩)) ∧ Below V.heap.size V w' := fun hr V hV => by
      have hg := readS_gen (b := l) Hrd.out
      have := RText_any p ⟨(n1 : Int), n3, (n4 : Int), n5, (l.drop 25).take n6⟩ (some ⟨g, o + 25, none⟩) (c - 25) V (by simp only [hpl]; exact bytes_part (Hby.out V hV) 25 n6 (by omega)) (by simp only [hpl]; omega) hr hg.1 hg.2
      unfold secV at this
      simp only [hpl] at this
      exact this
    have hof : ofS p l = if rightS p ⟨(n1 : Int), n3, (n4 : Int), n5, (l.drop 25).take n6⟩ = 0 ∧ textS p ⟨(n1 : Int), n3, (n4 : Int), n5, (l.drop 25).take n6⟩ = l then some ⟨(n1 : Int), n3, (n4 : Int), n5, (l.drop 25).take n6⟩ else none := by
      unfold ofS
      rw [Hrd.out]
    have HR := Lib.hid hR; clear hR
    have HT := Lib.hid hT; clear hT
    have Hof := Lib.hid hof; clear hof
    have Hpl := Lib.hid hpl; clear hpl
    go_wp2_with fail
    refine wp_region_tree (BelowW W3) ofTree (by kernel_rfl) (by kernel_rfl) (fun _ _ _ _ _ h => h) (inB_drew _) (fun hne => ?_)
    unfold ofTree
    simp only [PT.ops, List.getD_cons_zero, List.getD_cons_succ]
    (repeat ((with_reducible refine wpTree_F ?_); intro K hK; go_simp; refine hK _ _ ?_; clear hK K))
    refine wpTree_fork ?one ?two
    case one =>
      (with_reducible refine wpTree_E rfl ?_); intro K hK
      go_wp2_with fail
      refine (Rnumber_any (some ⟨g, o + 11, none⟩) 4 (c - 11) _ W3.drew (bytes_part (Hby.out _ hB3.drew) 11 4 (by decide)) (by omega) (by decide) (by decide)).mono ?_
      rintro e V1 ⟨rfl, hc1⟩
      rw [E4.out]
      have hV1 : Below W3.heap.size W3 V1 := Bthen (Bdrew (Bnil W3)) hc1
      (refine hK _ _ ?_; clear hK K)
      refine ⟨inB_more hV1, ?_⟩
      (repeat ((with_reducible refine wpTree_F ?_); intro K hK; go_simp; refine hK _ _ ?_; clear hK K))
      (with_reducible refine wpTree_E rfl ?_); intro K hK
      go_wp2_with fail
      refine ⟨inB_more (Bnew hV1 _), ?_⟩
      (with_reducible refine wpTree_E rfl ?_); intro K hK
      go_wp2_with fail
      have hV2 : Below W3.heap.size W3 (V1.alloc (.cells #[.int .i64 (n1 : Int), .int .u64 (n3 : Int), .int .i64 (n4 : Int), .int .u64 (n5 : Int), .slice (some ⟨g, o + 25, none⟩) n6 (c - 25)] 60)) := Bnew hV1 _
      have hN2 := heap_alloc_new V1 (.cells #[.int .i64 (n1 : Int), .int .u64 (n3 : Int), .int .i64 (n4 : Int), .int .u64 (n5 : Int), .slice (some ⟨g, o + 25, none⟩) n6 (c - 25)] 60)
      have hlt1 := hV1.size
      generalize V1.alloc (.cells #[.int .i64 (n1 : Int), .int .u64 (n3 : Int), .int .i64 (n4 : Int), .int .u64 (n5 : Int), .slice (some ⟨g, o + 25, none⟩) n6 (c - 25)] 60) = V2 at hV2 hN2 ⊢
      refine ⟨inB_more hV2, wpTree_nil ?_⟩
      have hX := (hV2.block _ (blk_lt hx3)).trans hx3
      have hBV := hB3.trans (hV2.mono hB3.size)
      obtain ⟨x0, x1, x2, x3, x4, xf⟩ := cells5 hX
      obtain ⟨v0, v1, v2, v3, v4, vf⟩ := cells5 hN2
      have hBl := blk_lt hN2
      go_wp2_with fail
      refine (HR.out V2 hBV).mono ?_
      rintro e Y1 ⟨rfl, hd1⟩
      have hXY := (hd1.block _ (blk_lt hX)).trans hX
      have hNY := (hd1.block _ (blk_lt hN2)).trans hN2
      have hBY := Bthen hBV hd1
      obtain ⟨z0, z1, z2, z3, z4, zf⟩ := cells5 hXY
      obtain ⟨u0, u1, u2, u3, u4, uf⟩ := cells5 hNY
      clear x0 x1 x2 x3 x4 xf v0 v1 v2 v3 v4 vf hload
      have Hof2 := Hof
      by_cases hri : rightS p ⟨(n1 : Int), n3, (n4 : Int), n5, (l.drop 25).take n6⟩ = 0
      · have HTr := Lib.hid (HT.out hri)
        rw [hri]
        go_wp2_with fail
        refine (HTr.out Y1 hBY).mono ?_
        rintro e Y2 ⟨A7, c7, rfl, hown7, hd2⟩
        have hBY2 := Bthen hBY hd2
        have hBT := BytesAt.own hown7
        have hcT := own_cap hown7
        have hBl2 := Hby.out Y2 hBY2
        clear hown7
        go_wp2_with fail
        refine (RSame_any A7 (some ⟨g, o, none⟩) 504 504 c7 c _ l Y2 hBT hcT hBl2 hc (by decide) (by decide)).mono ?_
        rintro e Y3 ⟨rfl, hd3⟩
        have hXZ := (hd3.block _ (blk_lt ((hd2.block _ (blk_lt hXY)).trans hXY))).trans ((hd2.block _ (blk_lt hXY)).trans hXY)
        have hNZ := (hd3.block _ (blk_lt ((hd2.block _ (blk_lt hNY)).trans hNY))).trans ((hd2.block _ (blk_lt hNY)).trans hNY)
        have hBZ := Bthen hBY2 hd3
        clear z0 z1 z2 z3 z4 zf u0 u1 u2 u3 u4 uf
        obtain ⟨z0, z1, z2, z3, z4, zf⟩ := cells5 hXZ
        obtain ⟨u0, u1, u2, u3, u4, uf⟩ := cells5 hNZ
        by_cases hsm : textS p ⟨(n1 : Int), n3, (n4 : Int), n5, (l.drop 25).take n6⟩ = l
        · have hdc : decide (textS p ⟨(n1 : Int), n3, (n4 : Int), n5, (l.drop 25).take n6⟩ = l) = true := by simpa using hsm
          have hofy : ofS p l = some ⟨(n1 : Int), n3, (n4 : Int), n5, (l.drop 25).take n6⟩ := by rw [Hof.out, if_pos ⟨hri, hsm⟩]
          have Hofy := Lib.hid hofy
          rw [hdc]
          clear hofy hdc hsm
          go_wp2_with fail
          obtain ⟨V, hV, hXs, hFs⟩ := five_set hXZ (.int .i64 (n1 : Int)) (.int .u64 (n3 : Int)) (.int .i64 (n4 : Int)) (.int .u64 (n5 : Int)) (.slice (some ⟨g, o + 25, none⟩) n6 (c - 25))
          rw [hV]
          obtain ⟨y0, y1, y2, y3, y4, yf⟩ := cells5 hXs
          have hfin := hBZ.trans (hFs.own (Nat.le_refl _) hBZ.size)
          refine bodyPost_ret (v := .tuple #[.agg #[.int .i64 (n1 : Int), .int .u64 (n3 : Int), .int .i64 (n4 : Int), .int .u64 (n5 : Int), .slice (some ⟨g, o + 25, none⟩) n6 (c - 25)], .bool true]) ?_ rfl ⟨.inr ⟨_, some ⟨g, o + 25, none⟩, c - 25, Hofy.out, ?_, ?_, ?_⟩, hfin⟩
          · simp [results, Try.results62, go_sem, y0, y1, y2, y3, y4]
          · unfold secV; simp only [Hpl.out]
          · simp only [Hpl.out]; exact bytes_part (Hby.out V hfin) 25 n6 (by omega)
          · simp only [Hpl.out]; omega
        · have hdc : decide (textS p ⟨(n1 : Int), n3, (n4 : Int), n5, (l.drop 25).take n6⟩ = l) = false := by simpa using hsm
          have hofn : ofS p l = none := by rw [Hof.out, if_neg (fun h => hsm h.2)]
          have Hofn := Lib.hid hofn
          rw [hdc]
          clear hofn hdc hsm
          go_wp2_with fail
          obtain ⟨V, hV, hXs, hFs⟩ := five_set hXZ (.int .i64 0) (.int .u64 0) (.int .i64 0) (.int .u64 0) (.slice none 0 0)
          rw [hV]
          obtain ⟨y0, y1, y2, y3, y4, yf⟩ := cells5 hXs
          refine bodyPost_ret (v := .tuple #[.agg #[.int .i64 0, .int .u64 0, .int .i64 0, .int .u64 0, .slice none 0 0], .bool false]) ?_ rfl ⟨.inl ⟨Hofn.out, rfl⟩, hBZ.trans (hFs.own (Nat.le_refl _) hBZ.size)⟩
          simp [results, Try.results62, go_sem, y0, y1, y2, y3, y4]
      · have hofn : ofS p l = none := by rw [Hof.out, if_neg (fun h => hri h.1)]
        have Hofn := Lib.hid hofn
        have hrb : (rightS p ⟨(n1 : Int), n3, (n4 : Int), n5, (l.drop 25).take n6⟩ != 0) = true := by simpa using hri
        generalize rightS p ⟨(n1 : Int), n3, (n4 : Int), n5, (l.drop 25).take n6⟩ = rr at hri hrb ⊢
        clear hofn
        go_wp2_with fail
        obtain ⟨V, hV, hXs, hFs⟩ := five_set hXY (.int .i64 0) (.int .u64 0) (.int .i64 0) (.int .u64 0) (.slice none 0 0)
        rw [hV]
        obtain ⟨y0, y1, y2, y3, y4, yf⟩ := cells5 hXs
        refine bodyPost_ret (v := .tuple #[.agg #[.int .i64 0, .int .u64 0, .int .i64 0, .int .u64 0, .slice none 0 0], .bool false]) ?_ rfl ⟨.inl ⟨Hofn.out, rfl⟩, hBY.trans (hFs.own (Nat.le_refl _) hBY.size)⟩
        simp [results, Try.results62, go_sem, y0, y1, y2, y3, y4]
    case two =>
      (with_reducible refine wpTree_E rfl ?_); intro K hK
      go_wp2_with fail
      have hV0 : Below W3.heap.size W3 (W3.alloc (.cells #[.int .i64 0, .int .u64 0, .int .i64 0, .int .u64 0, .slice none 0 0] 60)).drew := Bdrew (Bbox W3 _)
      have hN0 : (W3.alloc (.cells #[.int .i64 0, .int .u64 0, .int .i64 0, .int .u64 0, .slice none 0 0] 60)).drew.heap[W3.heap.size]? = some (.cells #[.int .i64 0, .int .u64 0, .int .i64 0, .int .u64 0, .slice none 0 0] 60 (0, 0)) := heap_alloc_new W3 _
      generalize (W3.alloc (.cells #[.int .i64 0, .int .u64 0, .int .i64 0, .int .u64 0, .slice none 0 0] 60)).drew = V0 at hV0 hN0 ⊢
      refine ⟨inB_more hV0, ?_⟩
      (with_reducible refine wpTree_E rfl ?_); intro K hK
      go_wp2_with fail
      refine (Rnumber_any (some ⟨g, o + 11, none⟩) 4 (c - 11) _ V0 (bytes_part (Hby.out _ (Bthen hB3 hV0)) 11 4 (by decide)) (by omega) (by decide) (by decide)).mono ?_
      rintro e V1 ⟨rfl, hc1⟩
      rw [E4.out]
      have hV1 : Below W3.heap.size W3 V1 := Bthen hV0 hc1
      have hN1 := (hc1.block _ (blk_lt hN0)).trans hN0
      (refine hK _ _ ?_; clear hK K)
      refine ⟨inB_more hV1, ?_⟩
      (repeat ((with_reducible refine wpTree_F ?_); intro K hK; go_simp; refine hK _ _ ?_; clear hK K))
      obtain ⟨q0, q1, q2, q3, q4, qf⟩ := cells5 hN1
      (with_reducible refine wpTree_E rfl ?_); intro K hK
      go_wp2_with fail
      obtain ⟨V2, hV2e, hN2, hFn⟩ := five_set hN1 (.int .i64 (n1 : Int)) (.int .u64 (n3 : Int)) (.int .i64 (n4 : Int)) (.int .u64 (n5 : Int)) (.slice (some ⟨g, o + 25, none⟩) n6 (c - 25))
      rw [hV2e]
      have hV2 : Below W3.heap.size W3 V2 := hV1.trans (hFn.own (Nat.le_refl _) hV1.size)
      refine ⟨inB_more hV2, wpTree_nil ?_⟩
      clear hV2e q0 q1 q2 q3 q4 qf
      have hX := (hV2.block _ (blk_lt hx3)).trans hx3
      have hBV := hB3.trans (hV2.mono hB3.size)
      obtain ⟨x0, x1, x2, x3, x4, xf⟩ := cells5 hX
      obtain ⟨v0, v1, v2, v3, v4, vf⟩ := cells5 hN2
      have hBl := blk_lt hN2
      go_wp2_with fail
      refine (HR.out V2 hBV).mono ?_
      rintro e Y1 ⟨rfl, hd1⟩
      have hXY := (hd1.block _ (blk_lt hX)).trans hX
      have hNY := (hd1.block _ (blk_lt hN2)).trans hN2
      have hBY := Bthen hBV hd1
      obtain ⟨z0, z1, z2, z3, z4, zf⟩ := cells5 hXY
      obtain ⟨u0, u1, u2, u3, u4, uf⟩ := cells5 hNY
      clear x0 x1 x2 x3 x4 xf v0 v1 v2 v3 v4 vf hload
      have Hof2 := Hof
      by_cases hri : rightS p ⟨(n1 : Int), n3, (n4 : Int), n5, (l.drop 25).take n6⟩ = 0
      · have HTr := Lib.hid (HT.out hri)
        rw [hri]
        go_wp2_with fail
        refine (HTr.out Y1 hBY).mono ?_
        rintro e Y2 ⟨A7, c7, rfl, hown7, hd2⟩
        have hBY2 := Bthen hBY hd2
        have hBT := BytesAt.own hown7
        have hcT := own_cap hown7
        have hBl2 := Hby.out Y2 hBY2
        clear hown7
        go_wp2_with fail
        refine (RSame_any A7 (some ⟨g, o, none⟩) 504 504 c7 c _ l Y2 hBT hcT hBl2 hc (by decide) (by decide)).mono ?_
        rintro e Y3 ⟨rfl, hd3⟩
        have hXZ := (hd3.block _ (blk_lt ((hd2.block _ (blk_lt hXY)).trans hXY))).trans ((hd2.block _ (blk_lt hXY)).trans hXY)
        have hNZ := (hd3.block _ (blk_lt ((hd2.block _ (blk_lt hNY)).trans hNY))).trans ((hd2.block _ (blk_lt hNY)).trans hNY)
        have hBZ := Bthen hBY2 hd3
        clear z0 z1 z2 z3 z4 zf u0 u1 u2 u3 u4 uf
        obtain ⟨z0, z1, z2, z3, z4, zf⟩ := cells5 hXZ
        obtain ⟨u0, u1, u2, u3, u4, uf⟩ := cells5 hNZ
        by_cases hsm : textS p ⟨(n1 : Int), n3, (n4 : Int), n5, (l.drop 25).take n6⟩ = l
        · have hdc : decide (textS p ⟨(n1 : Int), n3, (n4 : Int), n5, (l.drop 25).take n6⟩ = l) = true := by simpa using hsm
          have hofy : ofS p l = some ⟨(n1 : Int), n3, (n4 : Int), n5, (l.drop 25).take n6⟩ := by rw [Hof.out, if_pos ⟨hri, hsm⟩]
          have Hofy := Lib.hid hofy
          rw [hdc]
          clear hofy hdc hsm
          go_wp2_with fail
          obtain ⟨V, hV, hXs, hFs⟩ := five_set hXZ (.int .i64 (n1 : Int)) (.int .u64 (n3 : Int)) (.int .i64 (n4 : Int)) (.int .u64 (n5 : Int)) (.slice (some ⟨g, o + 25, none⟩) n6 (c - 25))
          rw [hV]
          obtain ⟨y0, y1, y2, y3, y4, yf⟩ := cells5 hXs
          have hfin := hBZ.trans (hFs.own (Nat.le_refl _) hBZ.size)
          refine bodyPost_ret (v := .tuple #[.agg #[.int .i64 (n1 : Int), .int .u64 (n3 : Int), .int .i64 (n4 : Int), .int .u64 (n5 : Int), .slice (some ⟨g, o + 25, none⟩) n6 (c - 25)], .bool true]) ?_ rfl ⟨.inr ⟨_, some ⟨g, o + 25, none⟩, c - 25, Hofy.out, ?_, ?_, ?_⟩, hfin⟩
          · simp [results, Try.results62, go_sem, y0, y1, y2, y3, y4]
          · unfold secV; simp only [Hpl.out]
          · simp only [Hpl.out]; exact bytes_part (Hby.out V hfin) 25 n6 (by omega)
          · simp only [Hpl.out]; omega
        · have hdc : decide (textS p ⟨(n1 : Int), n3, (n4 : Int), n5, (l.drop 25).take n6⟩ = l) = false := by simpa using hsm
          have hofn : ofS p l = none := by rw [Hof.out, if_neg (fun h => hsm h.2)]
          have Hofn := Lib.hid hofn
          rw [hdc]
          clear hofn hdc hsm
          go_wp2_with fail
          obtain ⟨V, hV, hXs, hFs⟩ := five_set hXZ (.int .i64 0) (.int .u64 0) (.int .i64 0) (.int .u64 0) (.slice none 0 0)
          rw [hV]
          obtain ⟨y0, y1, y2, y3, y4, yf⟩ := cells5 hXs
          refine bodyPost_ret (v := .tuple #[.agg #[.int .i64 0, .int .u64 0, .int .i64 0, .int .u64 0, .slice none 0 0], .bool false]) ?_ rfl ⟨.inl ⟨Hofn.out, rfl⟩, hBZ.trans (hFs.own (Nat.le_refl _) hBZ.size)⟩
          simp [results, Try.results62, go_sem, y0, y1, y2, y3, y4]
      · have hofn : ofS p l = none := by rw [Hof.out, if_neg (fun h => hri h.1)]
        have Hofn := Lib.hid hofn
        have hrb : (rightS p ⟨(n1 : Int), n3, (n4 : Int), n5, (l.drop 25).take n6⟩ != 0) = true := by simpa using hri
        generalize rightS p ⟨(n1 : Int), n3, (n4 : Int), n5, (l.drop 25).take n6⟩ = rr at hri hrb ⊢
        clear hofn
        go_wp2_with fail
        obtain ⟨V, hV, hXs, hFs⟩ := five_set hXY (.int .i64 0) (.int .u64 0) (.int .i64 0) (.int .u64 0) (.slice none 0 0)
        rw [hV]
        obtain ⟨y0, y1, y2, y3, y4, yf⟩ := cells5 hXs
        refine bodyPost_ret (v := .tuple #[.agg #[.int .i64 0, .int .u64 0, .int .i64 0, .int .u64 0, .slice none 0 0], .bool false]) ?_ rfl ⟨.inl ⟨Hofn.out, rfl⟩, hBY.trans (hFs.own (Nat.le_refl _) hBY.size)⟩
        simp [results, Try.results62, go_sem, y0, y1, y2, y3, y4]

end Go.Proofs.Ytdjndeleafhglaa
namespace Go.Proofs.Ytdjndeleafhglaa
open Go.RowKit

set_option maxRecDepth 100000 in
set_option maxHeartbeats 4000000 in
theorem SectorReads_long (p : Int) (A : Option Addr) (n c : Nat) (w : World) (h : 1000 < n) :
    Calls Try.prog 7 #[.int .i64 p, .slice A n c] w fun e w' => e = .returned (.bool true) ∧ Below w.heap.size w w' := by
  have h1' : (1000 : Int) < (n : Int) := by omega
  go_enter Try.func7, Try.ntmps7
  go_wp2_with fail
  refine (alive18_any _).mono ?_; rintro e w1 ⟨rfl, hb1⟩
  go_wp2_with fail
  go_ret
  exact ⟨rfl, hb1⟩

set_option maxRecDepth 100000 in
set_option maxHeartbeats 4000000 in
theorem SectorReads_form (p : Int) (A : Option Addr) (n c : Nat) (l : List UInt8) (w : World) (hb : BytesAt w A n l) (hc : n ≤ c) (h : n ≤ 1000) (h5 : n ≠ 512) :
    Calls Try.prog 7 #[.int .i64 p, .slice A n c] w fun e w' => e = .returned (.bool true) ∧ Below w.heap.size w w' := by
  have h1' : ¬ (1000 : Int) < (n : Int) := by omega
  have h5' : ((n : Int) != 512) = true := by simp; omega
  have Hb := Lib.hid hb; clear hb
  go_enter Try.func7, Try.ntmps7
  go_wp2_with fail
  refine (Real_any w).mono ?_; rintro e w1 ⟨u, S, rfl, hU, hS, hb1⟩
  go_wp2_with fail
  refine (Decode_form p A n c w1 u h5).mono ?_; rintro e w2 ⟨A2, c2, rfl, _, hb2⟩
  have hB2 := Bthen hb1 hb2
  unfold secV secZero
  simp only [List.length_nil]
  go_wp2_with fail
  have hx3 := heap_alloc_new w2 (.cells #[.int .i64 0, .int .u64 0, .int .i64 0, .int .u64 0, .slice A2 0 c2] 54)
  have hB3 : Below w.heap.size w (w2.alloc (.cells #[.int .i64 0, .int .u64 0, .int .i64 0, .int .u64 0, .slice A2 0 c2] 54)) := Bnew hB2 _
  generalize w2.alloc (.cells #[.int .i64 0, .int .u64 0, .int .i64 0, .int .u64 0, .slice A2 0 c2] 54) = W3 at hx3 hB3 ⊢
  refine (Decode_nil p A n c W3).mono ?_; rintro e w4 ⟨A4, c4, rfl, _, hb4⟩
  have hx4 := (hb4.block _ (blk_lt hx3)).trans hx3
  have hB4 := Bthen hB3 hb4
  unfold secV secZero
  simp only [List.length_nil]
  go_wp2_with fail
  have hx5 := (Below.heap_alloc w4 (.cells #[.int .i64 0, .int .u64 0, .int .i64 0, .int .u64 0, .slice A4 0 c4] 54) _ (blk_lt hx4)).trans hx4
  have hB5 : Below w.heap.size w (w4.alloc (.cells #[.int .i64 0, .int .u64 0, .int .i64 0, .int .u64 0, .slice A4 0 c4] 54)) := Bnew hB4 _
  have hb5 : Below w4.heap.size w4 (w4.alloc (.cells #[.int .i64 0, .int .u64 0, .int .i64 0, .int .u64 0, .slice A4 0 c4] 54)) := Bbox _ _
  generalize w4.alloc (.cells #[.int .i64 0, .int .u64 0, .int .i64 0, .int .u64 0, .slice A4 0 c4] 54) = W5 at hx5 hB5 hb5 ⊢
  refine (IsBlank_any A n c l W5 (Hb.out.below hB5) (by omega) (by omega)).mono ?_; rintro e w6 ⟨rfl, hb6⟩
  have hx6 := (hb6.block _ (blk_lt hx5)).trans hx5
  have hB6 := Bthen hB5 hb6
  go_wp2_with fail
  refine (RBlank_any A n c l w6 (Hb.out.below hB6) (by omega) (by omega)).mono ?_; rintro e w7 ⟨rfl, hb7⟩
  have hx7 := (hb7.block _ (blk_lt hx6)).trans hx6
  have hB7 := Bthen hB6 hb7
  clear hx3 hx4 hx5 hx6
  obtain ⟨a0, a1, a2, a3, a4, af⟩ := cells5 hx7
  go_wp2_with fail
  refine (alive18_any _).mono ?_; rintro e wz ⟨rfl, hbz⟩
  go_wp2_with fail
  go_ret
  exact ⟨rfl, Bthen hB7 hbz⟩

set_option maxRecDepth 100000 in
set_option maxHeartbeats 4000000 in
theorem SectorReads_blank (p : Int) (g o c : Nat) (l : List UInt8) (w : World) (hb : BytesAt w (some ⟨g, o, none⟩) 512 l) (hc : 512 ≤ c) (hl : l = blankS) :
    Calls Try.prog 7 #[.int .i64 p, .slice (some ⟨g, o, none⟩) 512 c] w fun e w' => e = .returned (.bool true) ∧ Below w.heap.size w w' := by
  have hdec : decK none p l = (7, secZero) := by rw [hl]; exact dec_blank none p
  have hbl : decide (l = blankS) = true := by simpa using hl
  have hb' := hb
  have Hdec := Lib.hid hdec; clear hdec
  have Hb := Lib.hid hb; clear hb hl
  go_enter Try.func7, Try.ntmps7
  go_wp2_with fail
  refine (Real_any w).mono ?_; rintro e w1 ⟨u, S, rfl, hU, hS, hb1⟩
  go_wp2_with fail
  refine (Decode_any p g o c l hU (hb'.below hb1) hc).mono ?_
  rintro e w2 hp
  rw [Hdec.out] at hp
  obtain ⟨A2, c2, rfl, hown2, hb2⟩ := hp
  have hB2 := Bthen hb1 hb2
  clear hown2
  unfold secV secZero
  simp only [List.length_nil]
  go_wp2_with fail
  have hx3 := heap_alloc_new w2 (.cells #[.int .i64 0, .int .u64 0, .int .i64 0, .int .u64 0, .slice A2 0 c2] 54)
  have hB3 : Below w.heap.size w (w2.alloc (.cells #[.int .i64 0, .int .u64 0, .int .i64 0, .int .u64 0, .slice A2 0 c2] 54)) := Bnew hB2 _
  generalize w2.alloc (.cells #[.int .i64 0, .int .u64 0, .int .i64 0, .int .u64 0, .slice A2 0 c2] 54) = W3 at hx3 hB3 ⊢
  refine (Decode_nil p (some ⟨g, o, none⟩) 512 c W3).mono ?_; rintro e w4 ⟨A4, c4, rfl, _, hb4⟩
  have hx4 := (hb4.block _ (blk_lt hx3)).trans hx3
  have hB4 := Bthen hB3 hb4
  unfold secV secZero
  simp only [List.length_nil]
  go_wp2_with fail
  have hx5 := (Below.heap_alloc w4 (.cells #[.int .i64 0, .int .u64 0, .int .i64 0, .int .u64 0, .slice A4 0 c4] 54) _ (blk_lt hx4)).trans hx4
  have hB5 : Below w.heap.size w (w4.alloc (.cells #[.int .i64 0, .int .u64 0, .int .i64 0, .int .u64 0, .slice A4 0 c4] 54)) := Bnew hB4 _
  have hb5 : Below w4.heap.size w4 (w4.alloc (.cells #[.int .i64 0, .int .u64 0, .int .i64 0, .int .u64 0, .slice A4 0 c4] 54)) := Bbox _ _
  generalize w4.alloc (.cells #[.int .i64 0, .int .u64 0, .int .i64 0, .int .u64 0, .slice A4 0 c4] 54) = W5 at hx5 hB5 hb5 ⊢
  refine (IsBlank_any (some ⟨g, o, none⟩) 512 c l W5 (Hb.out.below hB5) (by omega) (by omega)).mono ?_; rintro e w6 ⟨rfl, hb6⟩
  have hx6 := (hb6.block _ (blk_lt hx5)).trans hx5
  have hB6 := Bthen hB5 hb6
  go_wp2_with fail
  refine (RBlank_any (some ⟨g, o, none⟩) 512 c l w6 (Hb.out.below hB6) (by omega) (by omega)).mono ?_; rintro e w7 ⟨rfl, hb7⟩
  have hx7 := (hb7.block _ (blk_lt hx6)).trans hx6
  have hB7 := Bthen hB6 hb7
  clear hx3 hx4 hx5 hx6
  go_wp2_with fail
  refine (RBlank_any (some ⟨g, o, none⟩) 512 c l w7 (Hb.out.below hB7) (by omega) (by omega)).mono ?_; rintro e w8 ⟨rfl, hb8⟩
  have hx8 := (hb8.block _ (blk_lt hx7)).trans hx7
  have hB8 := Bthen hB7 hb8
  obtain ⟨a0, a1, a2, a3, a4, af⟩ := cells5 hx8
  go_wp2_with fail
  refine (alive18_any _).mono ?_; rintro e wz ⟨rfl, hbz⟩
  go_wp2_with fail
  go_ret
  exact ⟨rfl, Bthen hB8 hbz⟩

set_option maxRecDepth 100000 in
set_option maxHeartbeats 4000000 in
theorem SectorReads_none (p : Int) (g o c : Nat) (l : List UInt8) (w : World) (hb : BytesAt w (some ⟨g, o, none⟩) 512 l) (hc : 512 ≤ c) (hl : l ≠ blankS) (ho : ofS p (l.take 504) = none) :
    Calls Try.prog 7 #[.int .i64 p, .slice (some ⟨g, o, none⟩) 512 c] w fun e w' => e = .returned (.bool true) ∧ Below w.heap.size w w' := by
  have hdec : decK none p l = (11, secZero) := by unfold decK; rw [if_neg (by rw [hb.len]; simp), if_neg hl, ho]
  have hbl : decide (l = blankS) = false := by simpa using hl
  have hb' := hb
  have Hdec := Lib.hid hdec; clear hdec
  have Ho := Lib.hid ho; clear ho
  have Hb := Lib.hid hb; clear hb hl
  have hc1 : (504 : Int) ≤ (c : Int) := by omega
  have hc2 : ¬ (c = 504) := by omega
  go_enter Try.func7, Try.ntmps7
  go_wp2_with fail
  refine (Real_any w).mono ?_; rintro e w1 ⟨u, S, rfl, hU, hS, hb1⟩
  go_wp2_with fail
  refine (Decode_any p g o c l hU (hb'.below hb1) hc).mono ?_
  rintro e w2 hp
  rw [Hdec.out] at hp
  obtain ⟨A2, c2, rfl, hown2, hb2⟩ := hp
  have hB2 := Bthen hb1 hb2
  clear hown2
  unfold secV secZero
  simp only [List.length_nil]
  go_wp2_with fail
  have hx3 := heap_alloc_new w2 (.cells #[.int .i64 0, .int .u64 0, .int .i64 0, .int .u64 0, .slice A2 0 c2] 54)
  have hB3 : Below w.heap.size w (w2.alloc (.cells #[.int .i64 0, .int .u64 0, .int .i64 0, .int .u64 0, .slice A2 0 c2] 54)) := Bnew hB2 _
  generalize w2.alloc (.cells #[.int .i64 0, .int .u64 0, .int .i64 0, .int .u64 0, .slice A2 0 c2] 54) = W3 at hx3 hB3 ⊢
  refine (Decode_nil p (some ⟨g, o, none⟩) 512 c W3).mono ?_; rintro e w4 ⟨A4, c4, rfl, _, hb4⟩
  have hx4 := (hb4.block _ (blk_lt hx3)).trans hx3
  have hB4 := Bthen hB3 hb4
  unfold secV secZero
  simp only [List.length_nil]
  go_wp2_with fail
  have hx5 := (Below.heap_alloc w4 (.cells #[.int .i64 0, .int .u64 0, .int .i64 0, .int .u64 0, .slice A4 0 c4] 54) _ (blk_lt hx4)).trans hx4
  have hB5 : Below w.heap.size w (w4.alloc (.cells #[.int .i64 0, .int .u64 0, .int .i64 0, .int .u64 0, .slice A4 0 c4] 54)) := Bnew hB4 _
  have hb5 : Below w4.heap.size w4 (w4.alloc (.cells #[.int .i64 0, .int .u64 0, .int .i64 0, .int .u64 0, .slice A4 0 c4] 54)) := Bbox _ _
  generalize w4.alloc (.cells #[.int .i64 0, .int .u64 0, .int .i64 0, .int .u64 0, .slice A4 0 c4] 54) = W5 at hx5 hB5 hb5 ⊢
  refine (IsBlank_any (some ⟨g, o, none⟩) 512 c l W5 (Hb.out.below hB5) (by omega) (by omega)).mono ?_; rintro e w6 ⟨rfl, hb6⟩
  have hx6 := (hb6.block _ (blk_lt hx5)).trans hx5
  have hB6 := Bthen hB5 hb6
  go_wp2_with fail
  refine (RBlank_any (some ⟨g, o, none⟩) 512 c l w6 (Hb.out.below hB6) (by omega) (by omega)).mono ?_; rintro e w7 ⟨rfl, hb7⟩
  have hx7 := (hb7.block _ (blk_lt hx6)).trans hx6
  have hB7 := Bthen hB6 hb7
  clear hx3 hx4 hx5 hx6
  go_wp2_with fail
  refine (RBlank_any (some ⟨g, o, none⟩) 512 c l w7 (Hb.out.below hB7) (by omega) (by omega)).mono ?_; rintro e w8 ⟨rfl, hb8⟩
  have hx8 := (hb8.block _ (blk_lt hx7)).trans hx7
  have hB8 := Bthen hB7 hb8
  go_wp2_with fail
  have h504 := bytes_part (Hb.out.below hB8) 0 504 (by decide)
  rw [List.drop_zero, Nat.add_zero] at h504
  refine (ROf_any p g o c (l.take 504) w8 h504 (by omega)).mono ?_
  rintro e w9 ⟨hof, hb9⟩
  have hx9 := (hb9.block _ (blk_lt hx8)).trans hx8
  have hB9 := Bthen hB8 hb9
  clear hx7 hx8 h504
  rcases hof with ⟨_, rfl⟩ | ⟨x, A, c', hs, _⟩
  case inr => rw [Ho.out] at hs; cases hs
  unfold secV secZero
  simp only [List.length_nil]
  go_wp2_with fail
  have hx10 := (Below.heap_alloc w9 (.cells #[.int .i64 0, .int .u64 0, .int .i64 0, .int .u64 0, .slice none 0 0] 60) _ (blk_lt hx9)).trans hx9
  have hB10 : Below w.heap.size w (w9.alloc (.cells #[.int .i64 0, .int .u64 0, .int .i64 0, .int .u64 0, .slice none 0 0] 60)) := Bnew hB9 _
  generalize w9.alloc (.cells #[.int .i64 0, .int .u64 0, .int .i64 0, .int .u64 0, .slice none 0 0] 60) = W10 at hx10 hB10 ⊢
  clear hx9
  refine wp_region_in (BelowW W10) [(0, true), (1, true), (2, true), (3, true), (4, true), (6, true), (7, true), (5, false), (8, false), (9, true), (10, true)] (by kernel_rfl) (by kernel_rfl) (fun _ _ _ _ _ h => h) (inB_drew _) (fun hne => ?_)
  simp only [permOps, List.map_cons, List.map_nil, List.getD_cons_zero, List.getD_cons_succ]
  (repeat ((with_reducible refine wpPerm_F ?_); intro K hK; go_simp; refine hK _ _ ?_; clear hK K))
  (with_reducible refine wpPerm_G ?_); intro K K' hK hK'; go_simp
  (refine hK' _ _ ?_; clear hK hK' K K')
  (with_reducible refine wpPerm_G ?_); intro K K' hK hK'; go_simp
  (refine hK' _ _ ?_; clear hK hK' K K')
  (repeat ((with_reducible refine wpPerm_F ?_); intro K hK; go_simp; refine hK _ _ ?_; clear hK K))
  refine wpPerm_nil ?_
  obtain ⟨a0, a1, a2, a3, a4, af⟩ := cells5 hx10
  go_wp2_with fail
  refine (back_any secZero A2 c2 _).mono ?_; rintro e wp ⟨rfl, hbp⟩
  have hBp := Bthen hB10.drew hbp
  unfold secV secZero
  simp only [List.length_nil]
  go_wp2_with fail
  refine (RSame18_any secZero secZero A2 none c2 0 wp ⟨rfl, fun h => by simp [secZero] at h⟩ (Nat.zero_le _) ⟨rfl, fun h => by simp [secZero] at h⟩ (Nat.zero_le _) (by decide) (by decide)).mono ?_; rintro e wq ⟨rfl, hbq⟩
  have hBq := Bthen hBp hbq
  rw [show decide (secZero = secZero) = true by simp]
  go_wp2_with fail
  refine (alive18_any _).mono ?_; rintro e wz ⟨rfl, hbz⟩
  go_wp2_with fail
  go_ret
  exact ⟨rfl, Bthen hBq hbz⟩

set_option maxRecDepth 100000 in
set_option maxHeartbeats 4000000 in
theorem SectorReads_sum (p : Int) (g o c : Nat) (l : List UInt8) (w : World) (hb : BytesAt w (some ⟨g, o, none⟩) 512 l) (hc : 512 ≤ c) (x : Sec) (hl : l ≠ blankS) (ho : ofS p (l.take 504) = some x) (hck : crcB (l.take 504) ≠ l.drop 504) :
    Calls Try.prog 7 #[.int .i64 p, .slice (some ⟨g, o, none⟩) 512 c] w fun e w' => e = .returned (.bool true) ∧ Below w.heap.size w w' := by
  have hdec : decK none p l = (11, secZero) := by
    unfold decK
    rw [if_neg (by rw [hb.len]; simp), if_neg hl, ho]
    simp [checkK, hck]
  have hbl : decide (l = blankS) = false := by simpa using hl
  have Hck : Hid (decide (crcB (l.take 504) = l.drop 504) = false) := Lib.hid (by simpa using hck)
  have hb' := hb
  have Hl8 : Hid ((l.drop 504).length ≤ 8) := Lib.hid (by rw [List.length_drop, hb.len]; decide)
  have Hdec := Lib.hid hdec; clear hdec
  have Ho := Lib.hid ho; clear ho
  have Hb := Lib.hid hb; clear hb hl hck
  have hc1 : (504 : Int) ≤ (c : Int) := by omega
  have hc2 : ¬ (c = 504) := by omega
  go_enter Try.func7, Try.ntmps7
  go_wp2_with fail
  refine (Real_any w).mono ?_; rintro e w1 ⟨u, S, rfl, hU, hS, hb1⟩
  go_wp2_with fail
  refine (Decode_any p g o c l hU (hb'.below hb1) hc).mono ?_
  rintro e w2 hp
  rw [Hdec.out] at hp
  obtain ⟨A2, c2, rfl, hown2, hb2⟩ := hp
  have hB2 := Bthen hb1 hb2
  clear hown2
  unfold secV secZero
  simp only [List.length_nil]
  go_wp2_with fail
  have hx3 := heap_alloc_new w2 (.cells #[.int .i64 0, .int .u64 0, .int .i64 0, .int .u64 0, .slice A2 0 c2] 54)
  have hB3 : Below w.heap.size w (w2.alloc (.cells #[.int .i64 0, .int .u64 0, .int .i64 0, .int .u64 0, .slice A2 0 c2] 54)) := Bnew hB2 _
  generalize w2.alloc (.cells #[.int .i64 0, .int .u64 0, .int .i64 0, .int .u64 0, .slice A2 0 c2] 54) = W3 at hx3 hB3 ⊢
  refine (Decode_nil p (some ⟨g, o, none⟩) 512 c W3).mono ?_; rintro e w4 ⟨A4, c4, rfl, _, hb4⟩
  have hx4 := (hb4.block _ (blk_lt hx3)).trans hx3
  have hB4 := Bthen hB3 hb4
  unfold secV secZero
  simp only [List.length_nil]
  go_wp2_with fail
  have hx5 := (Below.heap_alloc w4 (.cells #[.int .i64 0, .int .u64 0, .int .i64 0, .int .u64 0, .slice A4 0 c4] 54) _ (blk_lt hx4)).trans hx4
  have hB5 : Below w.heap.size w (w4.alloc (.cells #[.int .i64 0, .int .u64 0, .int .i64 0, .int .u64 0, .slice A4 0 c4] 54)) := Bnew hB4 _
  have hb5 : Below w4.heap.size w4 (w4.alloc (.cells #[.int .i64 0, .int .u64 0, .int .i64 0, .int .u64 0, .slice A4 0 c4] 54)) := Bbox _ _
  generalize w4.alloc (.cells #[.int .i64 0, .int .u64 0, .int .i64 0, .int .u64 0, .slice A4 0 c4] 54) = W5 at hx5 hB5 hb5 ⊢
  refine (IsBlank_any (some ⟨g, o, none⟩) 512 c l W5 (Hb.out.below hB5) (by omega) (by omega)).mono ?_; rintro e w6 ⟨rfl, hb6⟩
  have hx6 := (hb6.block _ (blk_lt hx5)).trans hx5
  have hB6 := Bthen hB5 hb6
  go_wp2_with fail
  refine (RBlank_any (some ⟨g, o, none⟩) 512 c l w6 (Hb.out.below hB6) (by omega) (by omega)).mono ?_; rintro e w7 ⟨rfl, hb7⟩
  have hx7 := (hb7.block _ (blk_lt hx6)).trans hx6
  have hB7 := Bthen hB6 hb7
  clear hx3 hx4 hx5 hx6
  go_wp2_with fail
  refine (RBlank_any (some ⟨g, o, none⟩) 512 c l w7 (Hb.out.below hB7) (by omega) (by omega)).mono ?_; rintro e w8 ⟨rfl, hb8⟩
  have hx8 := (hb8.block _ (blk_lt hx7)).trans hx7
  have hB8 := Bthen hB7 hb8
  go_wp2_with fail
  have h504 := bytes_part (Hb.out.below hB8) 0 504 (by decide)
  rw [List.drop_zero, Nat.add_zero] at h504
  refine (ROf_any p g o c (l.take 504) w8 h504 (by omega)).mono ?_
  rintro e w9 ⟨hof, hb9⟩
  have hx9 := (hb9.block _ (blk_lt hx8)).trans hx8
  have hB9 := Bthen hB8 hb9
  clear hx7 hx8 h504
  rcases hof with ⟨hs, _⟩ | ⟨x', A, c', hs, rfl, hxb, hxc⟩
  case inl => rw [Ho.out] at hs; cases hs
  obtain rfl : x = x' := Option.some.inj (Ho.out.symm.trans hs)
  clear hs
  unfold secV
  go_wp2_with fail
  have hx10 := (Below.heap_alloc w9 (.cells #[.int .i64 x.kind, .int .u64 (x.life : Int), .int .i64 x.seq, .int .u64 (x.gen : Int), .slice A x.body.length c'] 60) _ (blk_lt hx9)).trans hx9
  have hy10 := heap_alloc_new w9 (.cells #[.int .i64 x.kind, .int .u64 (x.life : Int), .int .i64 x.seq, .int .u64 (x.gen : Int), .slice A x.body.length c'] 60)
  have hB10 : Below w.heap.size w (w9.alloc (.cells #[.int .i64 x.kind, .int .u64 (x.life : Int), .int .i64 x.seq, .int .u64 (x.gen : Int), .slice A x.body.length c'] 60)) := Bnew hB9 _
  have hb10 : Below w9.heap.size w9 (w9.alloc (.cells #[.int .i64 x.kind, .int .u64 (x.life : Int), .int .i64 x.seq, .int .u64 (x.gen : Int), .slice A x.body.length c'] 60)) := Bbox _ _
  generalize w9.alloc (.cells #[.int .i64 x.kind, .int .u64 (x.life : Int), .int .i64 x.seq, .int .u64 (x.gen : Int), .slice A x.body.length c'] 60) = W10 at hx10 hy10 hB10 hb10 ⊢
  have HxB := Lib.hid (hxb.below hb10)
  clear hx9 hxb
  refine wp_region_in (BelowW W10) [(0, true), (1, true), (2, true), (3, true), (4, true), (6, true), (7, true), (5, false), (8, false), (9, true), (10, true)] (by kernel_rfl) (by kernel_rfl) (fun _ _ _ _ _ h => h) (inB_drew _) (fun hne => ?_)
  simp only [permOps, List.map_cons, List.map_nil, List.getD_cons_zero, List.getD_cons_succ]
  (repeat ((with_reducible refine wpPerm_F ?_); intro K hK; go_simp; refine hK _ _ ?_; clear hK K))
  (with_reducible refine wpPerm_G ?_); intro K K' hK hK'; go_simp
  have h504 := bytes_part (Hb.out.below hB10.drew) 0 504 (by decide)
  rw [List.drop_zero, Nat.add_zero] at h504
  refine (RBytes_any (some ⟨g, o, none⟩) 504 c (l.take 504) W10.drew h504 (by omega) (by decide)).mono ?_; rintro e y1 ⟨A7, c7, rfl, hown7, hd1⟩
  have hV1 : Below W10.heap.size W10 y1 := Bthen (Bdrew (Bnil W10)) hd1
  have hB7 := BytesAt.own hown7
  have hc7 := own_cap hown7
  clear hown7
  (refine hK _ _ ?_; clear hK hK' K K')
  refine ⟨inB_more hV1, ?_⟩
  (with_reducible refine wpPerm_G ?_); intro K K' hK hK'; go_simp
  have h8 := bytes_part (Hb.out.below (Bthen hB10 hV1)) 504 8 (by decide)
  rw [List.take_of_length_le (l := l.drop 504) Hl8.out] at h8
  refine (RSame_any A7 (some ⟨g, o + 504, none⟩) 8 8 c7 (c - 504) _ _ y1 hB7 hc7 h8 (by omega) (by decide) (by decide)).mono ?_; rintro e y2 ⟨rfl, hd2⟩
  have hV2 : Below W10.heap.size W10 y2 := Bthen hV1 hd2
  rw [Hck.out]
  (refine hK _ _ ?_; clear hK hK' K K')
  refine ⟨inB_more hV2, ?_⟩
  (repeat ((with_reducible refine wpPerm_F ?_); intro K hK; go_simp; refine hK _ _ ?_; clear hK K))
  refine wpPerm_nil ?_
  have hx11 := (hV2.block _ (blk_lt hx10)).trans hx10
  have hy11 := (hV2.block _ (blk_lt hy10)).trans hy10
  have hB11 := hB10.trans (hV2.mono hB10.size)
  obtain ⟨a0, a1, a2, a3, a4, af⟩ := cells5 hx11
  go_wp2_with fail
  refine (back_any secZero A2 c2 _).mono ?_; rintro e wp ⟨rfl, hbp⟩
  have hBp := Bthen hB11 hbp
  unfold secV secZero
  simp only [List.length_nil]
  go_wp2_with fail
  refine (RSame18_any secZero secZero A2 none c2 0 wp ⟨rfl, fun h => by simp [secZero] at h⟩ (Nat.zero_le _) ⟨rfl, fun h => by simp [secZero] at h⟩ (Nat.zero_le _) (by decide) (by decide)).mono ?_; rintro e wq ⟨rfl, hbq⟩
  have hBq := Bthen hBp hbq
  rw [show decide (secZero = secZero) = true by simp]
  go_wp2_with fail
  refine (alive18_any _).mono ?_; rintro e wz ⟨rfl, hbz⟩
  go_wp2_with fail
  go_ret
  exact ⟨rfl, Bthen hBq hbz⟩

set_option maxRecDepth 100000 in
set_option maxHeartbeats 4000000 in
theorem SectorReads_yes (p : Int) (g o c : Nat) (l : List UInt8) (w : World) (hb : BytesAt w (some ⟨g, o, none⟩) 512 l) (hc : 512 ≤ c) (x : Sec) (hl : l ≠ blankS) (ho : ofS p (l.take 504) = some x) (hck : crcB (l.take 504) = l.drop 504) :
    Calls Try.prog 7 #[.int .i64 p, .slice (some ⟨g, o, none⟩) 512 c] w fun e w' => e = .returned (.bool true) ∧ Below w.heap.size w w' := by
  have hdec : decK none p l = (0, x) := by
    unfold decK
    rw [if_neg (by rw [hb.len]; simp), if_neg hl, ho]
    simp [checkK, hck]
  have hbl : decide (l = blankS) = false := by simpa using hl
  have hxl : x.body.length ≤ 479 := (rightS_ok.1 (ofS_some ho).1).2.2.2.2.2.2
  have Hck : Hid (decide (crcB (l.take 504) = l.drop 504) = true) := Lib.hid (by simpa using hck)
  have hb' := hb
  have Hl8 : Hid ((l.drop 504).length ≤ 8) := Lib.hid (by rw [List.length_drop, hb.len]; decide)
  have Hdec := Lib.hid hdec; clear hdec
  have Ho := Lib.hid ho; clear ho
  have Hb := Lib.hid hb; clear hb hl hck
  have hc1 : (504 : Int) ≤ (c : Int) := by omega
  have hc2 : ¬ (c = 504) := by omega
  go_enter Try.func7, Try.ntmps7
  go_wp2_with fail
  refine (Real_any w).mono ?_; rintro e w1 ⟨u, S, rfl, hU, hS, hb1⟩
  go_wp2_with fail
  refine (Decode_any p g o c l hU (hb'.below hb1) hc).mono ?_
  rintro e w2 hp
  rw [Hdec.out] at hp
  obtain ⟨A2, c2, rfl, hown2, hb2⟩ := hp
  have hB2 := Bthen hb1 hb2
  have hcap2 := own_cap hown2
  have HB2 := Lib.hid (BytesAt.own hown2); clear hown2
  unfold secV
  simp only at HB2 hcap2
  go_wp2_with fail
  have hx3 := heap_alloc_new w2 (.cells #[.int .i64 x.kind, .int .u64 (x.life : Int), .int .i64 x.seq, .int .u64 (x.gen : Int), .slice A2 x.body.length c2] 54)
  have hB3 : Below w.heap.size w (w2.alloc (.cells #[.int .i64 x.kind, .int .u64 (x.life : Int), .int .i64 x.seq, .int .u64 (x.gen : Int), .slice A2 x.body.length c2] 54)) := Bnew hB2 _
  have hb3' : Below w2.heap.size w2 (w2.alloc (.cells #[.int .i64 x.kind, .int .u64 (x.life : Int), .int .i64 x.seq, .int .u64 (x.gen : Int), .slice A2 x.body.length c2] 54)) := Bbox _ _
  generalize w2.alloc (.cells #[.int .i64 x.kind, .int .u64 (x.life : Int), .int .i64 x.seq, .int .u64 (x.gen : Int), .slice A2 x.body.length c2] 54) = W3 at hx3 hB3 hb3' ⊢
  refine (Decode_nil p (some ⟨g, o, none⟩) 512 c W3).mono ?_; rintro e w4 ⟨A4, c4, rfl, _, hb4⟩
  have hx4 := (hb4.block _ (blk_lt hx3)).trans hx3
  have hB4 := Bthen hB3 hb4
  unfold secV secZero
  simp only [List.length_nil]
  go_wp2_with fail
  have hx5 := (Below.heap_alloc w4 (.cells #[.int .i64 0, .int .u64 0, .int .i64 0, .int .u64 0, .slice A4 0 c4] 54) _ (blk_lt hx4)).trans hx4
  have hB5 : Below w.heap.size w (w4.alloc (.cells #[.int .i64 0, .int .u64 0, .int .i64 0, .int .u64 0, .slice A4 0 c4] 54)) := Bnew hB4 _
  have hb5 : Below w4.heap.size w4 (w4.alloc (.cells #[.int .i64 0, .int .u64 0, .int .i64 0, .int .u64 0, .slice A4 0 c4] 54)) := Bbox _ _
  generalize w4.alloc (.cells #[.int .i64 0, .int .u64 0, .int .i64 0, .int .u64 0, .slice A4 0 c4] 54) = W5 at hx5 hB5 hb5 ⊢
  refine (IsBlank_any (some ⟨g, o, none⟩) 512 c l W5 (Hb.out.below hB5) (by omega) (by omega)).mono ?_; rintro e w6 ⟨rfl, hb6⟩
  have hx6 := (hb6.block _ (blk_lt hx5)).trans hx5
  have hB6 := Bthen hB5 hb6
  go_wp2_with fail
  refine (RBlank_any (some ⟨g, o, none⟩) 512 c l w6 (Hb.out.below hB6) (by omega) (by omega)).mono ?_; rintro e w7 ⟨rfl, hb7⟩
  have hx7 := (hb7.block _ (blk_lt hx6)).trans hx6
  have hB7 := Bthen hB6 hb7
  clear hx3 hx4 hx5 hx6
  go_wp2_with fail
  refine (RBlank_any (some ⟨g, o, none⟩) 512 c l w7 (Hb.out.below hB7) (by omega) (by omega)).mono ?_; rintro e w8 ⟨rfl, hb8⟩
  have hx8 := (hb8.block _ (blk_lt hx7)).trans hx7
  have hB8 := Bthen hB7 hb8
  go_wp2_with fail
  have h504 := bytes_part (Hb.out.below hB8) 0 504 (by decide)
  rw [List.drop_zero, Nat.add_zero] at h504
  refine (ROf_any p g o c (l.take 504) w8 h504 (by omega)).mono ?_
  rintro e w9 ⟨hof, hb9⟩
  have hx9 := (hb9.block _ (blk_lt hx8)).trans hx8
  have hB9 := Bthen hB8 hb9
  clear hx7 hx8 h504
  rcases hof with ⟨hs, _⟩ | ⟨x', A, c', hs, rfl, hxb, hxc⟩
  case inl => rw [Ho.out] at hs; cases hs
  obtain rfl : x = x' := Option.some.inj (Ho.out.symm.trans hs)
  clear hs
  have HB9 := Lib.hid (((((((HB2.out.below hb3').below hb4).below hb5).below hb6).below hb7).below hb8).below hb9)
  unfold secV
  go_wp2_with fail
  have hx10 := (Below.heap_alloc w9 (.cells #[.int .i64 x.kind, .int .u64 (x.life : Int), .int .i64 x.seq, .int .u64 (x.gen : Int), .slice A x.body.length c'] 60) _ (blk_lt hx9)).trans hx9
  have hy10 := heap_alloc_new w9 (.cells #[.int .i64 x.kind, .int .u64 (x.life : Int), .int .i64 x.seq, .int .u64 (x.gen : Int), .slice A x.body.length c'] 60)
  have hB10 : Below w.heap.size w (w9.alloc (.cells #[.int .i64 x.kind, .int .u64 (x.life : Int), .int .i64 x.seq, .int .u64 (x.gen : Int), .slice A x.body.length c'] 60)) := Bnew hB9 _
  have hb10 : Below w9.heap.size w9 (w9.alloc (.cells #[.int .i64 x.kind, .int .u64 (x.life : Int), .int .i64 x.seq, .int .u64 (x.gen : Int), .slice A x.body.length c'] 60)) := Bbox _ _
  generalize w9.alloc (.cells #[.int .i64 x.kind, .int .u64 (x.life : Int), .int .i64 x.seq, .int .u64 (x.gen : Int), .slice A x.body.length c'] 60) = W10 at hx10 hy10 hB10 hb10 ⊢
  have HxB := Lib.hid (hxb.below hb10)
  clear hx9 hxb
  refine wp_region_in (BelowW W10) [(0, true), (1, true), (2, true), (3, true), (4, true), (6, true), (7, true), (5, false), (8, false), (9, true), (10, true)] (by kernel_rfl) (by kernel_rfl) (fun _ _ _ _ _ h => h) (inB_drew _) (fun hne => ?_)
  simp only [permOps, List.map_cons, List.map_nil, List.getD_cons_zero, List.getD_cons_succ]
  (repeat ((with_reducible refine wpPerm_F ?_); intro K hK; go_simp; refine hK _ _ ?_; clear hK K))
  (with_reducible refine wpPerm_G ?_); intro K K' hK hK'; go_simp
  have h504 := bytes_part (Hb.out.below hB10.drew) 0 504 (by decide)
  rw [List.drop_zero, Nat.add_zero] at h504
  refine (RBytes_any (some ⟨g, o, none⟩) 504 c (l.take 504) W10.drew h504 (by omega) (by decide)).mono ?_; rintro e y1 ⟨A7, c7, rfl, hown7, hd1⟩
  have hV1 : Below W10.heap.size W10 y1 := Bthen (Bdrew (Bnil W10)) hd1
  have hB7 := BytesAt.own hown7
  have hc7 := own_cap hown7
  clear hown7
  (refine hK _ _ ?_; clear hK hK' K K')
  refine ⟨inB_more hV1, ?_⟩
  (with_reducible refine wpPerm_G ?_); intro K K' hK hK'; go_simp
  have h8 := bytes_part (Hb.out.below (Bthen hB10 hV1)) 504 8 (by decide)
  rw [List.take_of_length_le (l := l.drop 504) Hl8.out] at h8
  refine (RSame_any A7 (some ⟨g, o + 504, none⟩) 8 8 c7 (c - 504) _ _ y1 hB7 hc7 h8 (by omega) (by decide) (by decide)).mono ?_; rintro e y2 ⟨rfl, hd2⟩
  have hV2 : Below W10.heap.size W10 y2 := Bthen hV1 hd2
  rw [Hck.out]
  (refine hK _ _ ?_; clear hK hK' K K')
  refine ⟨inB_more hV2, ?_⟩
  (repeat ((with_reducible refine wpPerm_F ?_); intro K hK; go_simp; refine hK _ _ ?_; clear hK K))
  refine wpPerm_nil ?_
  have hx11 := (hV2.block _ (blk_lt hx10)).trans hx10
  have hy11 := (hV2.block _ (blk_lt hy10)).trans hy10
  have hB11 := hB10.trans (hV2.mono hB10.size)
  have HB10 := Lib.hid ((HB9.out.below hb10).below hV2)
  have HxB2 := Lib.hid (HxB.out.below hV2)
  clear hx10 hy10
  go_wp2_with fail
  have xxb := box_facts (((Bnil y2).block _ (blk_lt hx11)).trans hx11); have xx0 := fun x => (xxb x).1; have xx1 := fun x => (xxb x).2.1; have xx2 := fun x => (xxb x).2.2.1; have xx3 := fun x => (xxb x).2.2.2.1; have xx4 := fun x => (xxb x).2.2.2.2; clear xxb
  have yyb := box_facts (((Bnil y2).block _ (blk_lt hy11)).trans hy11); have yy0 := fun x => (yyb x).1; have yy1 := fun x => (yyb x).2.1; have yy2 := fun x => (yyb x).2.2.1; have yy3 := fun x => (yyb x).2.2.2.1; have yy4 := fun x => (yyb x).2.2.2.2; clear yyb
  refine wp_region_in (BelowW y2) [(0, true), (1, true), (2, true), (3, true), (5, true), (4, false), (6, false), (7, true), (8, true), (9, false), (10, true), (11, true)] (by kernel_rfl) (by kernel_rfl) (fun _ _ _ _ _ h => h) (inB_drew _) (fun hne => ?_)
  simp only [permOps, List.map_cons, List.map_nil, List.getD_cons_zero, List.getD_cons_succ]
  (repeat ((with_reducible refine wpPerm_F ?_); intro K hK; go_simp; refine hK _ _ ?_; clear hK K))
  (with_reducible refine wpPerm_G ?_); intro K K' hK hK'; go_simp
  refine (back_any x A2 c2 _).mono ?_; rintro e q1 ⟨rfl, hq1⟩
  have hQ1 : Below y2.heap.size y2 q1 := Bthen (Bdrew (Bnil y2)) hq1
  (refine hK _ _ ?_; clear hK hK' K K')
  refine ⟨inB_more hQ1, ?_⟩
  (with_reducible refine wpPerm_G ?_); intro K K' hK hK'; go_simp
  refine (RSame18_any x x A2 A c2 c' q1 (HB10.out.below hQ1) hcap2 (HxB2.out.below hQ1) hxc (by omega) (by omega)).mono ?_; rintro e q2 ⟨rfl, hq2⟩
  have hQ2 : Below y2.heap.size y2 q2 := Bthen hQ1 hq2
  rw [show decide (x = x) = true by simp]
  (refine hK _ _ ?_; clear hK hK' K K')
  refine ⟨inB_more hQ2, ?_⟩
  (repeat ((with_reducible refine wpPerm_F ?_); intro K hK; go_simp; refine hK _ _ ?_; clear hK K))
  (with_reducible refine wpPerm_G ?_); intro K K' hK hK'; go_simp
  refine (alive18_any _).mono ?_; rintro e q3 ⟨rfl, hq3⟩
  have hQ3 : Below y2.heap.size y2 q3 := Bthen hQ2 hq3
  (refine hK _ _ ?_; clear hK hK' K K')
  refine ⟨inB_more hQ3, ?_⟩
  (repeat ((with_reducible refine wpPerm_F ?_); intro K hK; go_simp; refine hK _ _ ?_; clear hK K))
  refine wpPerm_nil ?_
  go_wp2_with fail
  go_ret
  exact ⟨rfl, hB11.trans (hQ3.mono hB11.size)⟩

theorem SectorReads_walk (p : Int) (A : Option Addr) (n c : Nat) (l : List UInt8) (w : World) (hb : BytesAt w A n l) (hc : n ≤ c) :
    Calls Try.prog 7 #[.int .i64 p, .slice A n c] w fun e w' => e = .returned (.bool true) ∧ Below w.heap.size w w' := by
  by_cases h : 1000 < n
  · exact SectorReads_long p A n c w h
  · by_cases h5 : n = 512
    · subst h5
      obtain ⟨g, o, rfl, _⟩ := hb.at_ (by decide)
      by_cases hl : l = blankS
      · exact SectorReads_blank p g o c l w hb hc hl
      · cases ho : ofS p (l.take 504) with
        | none => exact SectorReads_none p g o c l w hb hc hl ho
        | some x =>
          by_cases hck : crcB (l.take 504) = l.drop 504
          · exact SectorReads_yes p g o c l w hb hc x hl ho hck
          · exact SectorReads_sum p g o c l w hb hc x hl ho hck
    · exact SectorReads_form p A n c l w hb hc (by omega) h5

end Go.Proofs.Ytdjndeleafhglaa
