/-
  The walk of sector.Decode, where the bytes are some.
  Small functions of the law of sectors, and its example.
  The walk of the law SectorBytes.
  Facts on the program's head that every statement's row asks, proved apart: the kernel would not hold them at once.
  What comes in, opened: bytes, and sectors by value.
  What is written is read, by whatever suite: plain lists.
  The walk of the law SectorBack.
  The walk of the law SectorBack: its two rounds.
-/
import Derived.Test.YtdjndeleafhglaaM2
import Derived.Test.YtdjndeleafhglaaRows
import Derived.ProofKit
import Derived.OpenShut
import Derived.ChangeSlices
import Derived.WideShapes
import Derived.Lib.SmallJoins
namespace Go.Proofs.Ytdjndeleafhglaa
open Go.RowKit

section
variable {w : World} {u : Nat} {K : SU} {S : Nat → Prop}
set_option maxRecDepth 100000 in
set_option maxHeartbeats 2000000 in
theorem Decode_right (p : Int) (g o d : Nat) (l : List UInt8) (x : Sec) (hb : BytesAt w (some ⟨g, o, none⟩) 512 l) (hd : 487 ≤ d) (hl : l ≠ blankS) (hr : readS l = some x) (hri : rightS p x ≠ 0) :
    Calls Try.prog 58 #[.pointer (some ⟨u, 0, none⟩), .int .i64 p, .slice (some ⟨g, o, none⟩) 512 (d + 25)] w fun e w' => DecPost (11, secZero) w e w' := by
  have hdb : decide (l = blankS) = false := by simpa using hl
  have hd1 : (504 : Int) ≤ (d : Int) + 25 := by omega
  have hd2 : ¬ (d + 25 = 504) := by omega
  have hd3 : ¬ (d = 479) := by omega
  have hri0 : (rightS p x != 0) = true := by simpa using hri
  generalize hrs : rightS p x = rr at hri hri0
  have Hright : Hid (∀ (A : Option Addr) (c : Nat) W, Calls Try.prog 139 #[.int .i64 p, secV x A c] W fun e w' => e = .returned (.int .i64 rr) ∧ Below W.heap.size W w') := Lib.hid fun A c W => by rw [← hrs]; exact right_any p x A c W
  clear hrs hri
  have Hb := Lib.hid hb; clear hb
  have Hr := Lib.hid hr; clear hr hl
  go_enter Try.func58, Try.ntmps58
  go_wp2_with fail
  refine (none_any _ _).mono ?_; rintro e w1 ⟨rfl, rfl⟩
  go_wp2_with fail
  refine (IsBlank_any (some ⟨g, o, none⟩) 512 (d + 25) l _ (Hb.out.below (Bbox _ _)) (by omega) (by decide)).mono ?_
  rintro e w1 ⟨rfl, hb1⟩
  rw [World.size_alloc] at hb1
  have hx := zero_cells hb1
  have hB1 : Below w.heap.size w w1 := (Bbox w _).trans (hb1.mono (Nat.le_succ _))
  go_wp2_with fail
  refine (read_any g o d l w1 (Hb.out.below hB1) hd).mono ?_
  rintro e w2 hp
  rcases hp with ⟨hs, _⟩ | ⟨x', A, c', hs, rfl, hown2, hb2⟩
  case inl => rw [Hr.out] at hs; cases hs
  obtain rfl : x = x' := Option.some.inj (Hr.out.symm.trans hs)
  have hx2 := (hb2.block _ (blk_lt hx)).trans hx
  have hB2 := Bthen hB1 hb2
  have hz1 := hB1.size
  have hz1' := blk_lt hx
  obtain ⟨xk, xl, xq, xg, xb⟩ := x
  have Hright := Lib.hid Hright.out
  unfold secV at Hright
  unfold secV
  simp only at hown2
  simp only
  go_wp2_with fail
  have hx3 := (Below.heap_alloc w2 (.cells #[.int .i64 xk, .int .u64 (xl : Int), .int .i64 xq, .int .u64 (xg : Int), .slice A xb.length c'] 54) _ (blk_lt hx2)).trans hx2
  have hy3 := heap_alloc_new w2 (.cells #[.int .i64 xk, .int .u64 (xl : Int), .int .i64 xq, .int .u64 (xg : Int), .slice A xb.length c'] 54)
  have hb3 : Below w2.heap.size w2 (w2.alloc (.cells #[.int .i64 xk, .int .u64 (xl : Int), .int .i64 xq, .int .u64 (xg : Int), .slice A xb.length c'] 54)) := Bbox _ _
  generalize w2.alloc (.cells #[.int .i64 xk, .int .u64 (xl : Int), .int .i64 xq, .int .u64 (xg : Int), .slice A xb.length c'] 54) = w3 at hx3 hy3 hb3 ⊢
  have hB3 := Bthen hB2 hb3
  have hown3 := own_below hown2 hb3
  have hbody := BytesAt.own hown3
  have hbytes := Hb.out.below hB3
  clear hx hx2 hb1 hb2 hown2 hs
  have hbox := box_facts hy3
  have hbox0 := fun x => (hbox x).1
  have hbox1 := fun x => (hbox x).2.1
  have hbox2 := fun x => (hbox x).2.2.1
  have hbox3 := fun x => (hbox x).2.2.2.1
  have hbox4 := fun x => (hbox x).2.2.2.2
  have Hown3 := Lib.hid hown3
  have Hbody := Lib.hid hbody
  have Hbytes := Lib.hid hbytes
  clear hbox hown3 hbody hbytes
  refine wp_region_in (BelowW w3) [(0, true), (1, true), (2, true), (3, true), (4, true), (5, false), (6, true), (7, true), (8, true), (9, true), (10, true), (12, true), (13, true), (11, false), (14, false), (15, true), (16, true), (17, true), (18, true), (19, true), (20, true), (21, true), (22, true), (23, false), (24, true), (25, true)] (by kernel_rfl) (by kernel_rfl) (fun _ _ _ _ _ h => h) (inB_drew _) (fun hne => ?_)
  simp only [permOps, List.map_cons, List.map_nil, List.getD_cons_zero, List.getD_cons_succ]
  (repeat ((with_reducible refine wpPerm_F ?_); intro K hK; go_simp; refine hK _ _ ?_; clear hK K))
  (with_reducible refine wpPerm_G ?_); intro K K' hK hK'; go_simp
  refine (Hright.out A c' _).mono ?_
  rintro e y1 ⟨rfl, hy1⟩
  have hW1 : Below w3.heap.size w3 y1 := Bthen (Bdrew (Bnil w3)) hy1
  (refine hK _ _ ?_; clear hK hK' K K')
  refine ⟨inB_more hW1, ?_⟩
  (repeat ((with_reducible refine wpPerm_F ?_); intro K hK; go_simp; refine hK _ _ ?_; clear hK K))
  (with_reducible refine wpPerm_G ?_); intro K K' hK hK'; go_simp
  (refine hK' _ _ ?_; clear hK hK' K K')
  (repeat ((with_reducible refine wpPerm_F ?_); intro K hK; go_simp; refine hK _ _ ?_; clear hK K))
  (with_reducible refine wpPerm_G ?_); intro K K' hK hK'; go_simp
  (refine hK' _ _ ?_; clear hK hK' K K')
  (repeat ((with_reducible refine wpPerm_F ?_); intro K hK; go_simp; refine hK _ _ ?_; clear hK K))
  (with_reducible refine wpPerm_G ?_); intro K K' hK hK'; go_simp
  (refine hK' _ _ ?_; clear hK hK' K K')
  (repeat ((with_reducible refine wpPerm_F ?_); intro K hK; go_simp; refine hK _ _ ?_; clear hK K))
  refine wpPerm_nil ?_
  have hX := (hW1.block _ (blk_lt hx3)).trans hx3
  have hBf := hB3.trans (hW1.mono hB3.size)
  obtain ⟨z0, z1, z2, z3, z4, zf⟩ := cells5 hX
  clear hbox0 hbox1 hbox2 hbox3 hbox4
  go_wp2_with fail
  obtain ⟨V, hV, hXs, hFs⟩ := five_set hX (.int .i64 0) (.int .u64 0) (.int .i64 0) (.int .u64 0) (.slice none 0 0)
  rw [hV]
  obtain ⟨y0, y1', y2', y3', y4', yf⟩ := cells5 hXs
  refine bodyPost_ret (v := .tuple #[.agg #[.int .i64 0, .int .u64 0, .int .i64 0, .int .u64 0, .slice none 0 0], .int .i64 11]) ?_ rfl (DecPost.zero (hBf.trans (hFs.own (Nat.le_refl _) hBf.size)))
  simp [results, Try.results58, go_sem, y0, y1', y2', y3', y4']

set_option maxRecDepth 100000 in
set_option maxHeartbeats 2000000 in
theorem Decode_text (p : Int) (g o d : Nat) (l : List UInt8) (x : Sec) (hb : BytesAt w (some ⟨g, o, none⟩) 512 l) (hd : 487 ≤ d) (hl : l ≠ blankS) (hr : readS l = some x) (hri : rightS p x = 0) (hsm : textS p x ≠ l.take 504) :
    Calls Try.prog 58 #[.pointer (some ⟨u, 0, none⟩), .int .i64 p, .slice (some ⟨g, o, none⟩) 512 (d + 25)] w fun e w' => DecPost (11, secZero) w e w' := by
  have hdb : decide (l = blankS) = false := by simpa using hl
  have hd1 : (504 : Int) ≤ (d : Int) + 25 := by omega
  have hd2 : ¬ (d + 25 = 504) := by omega
  have hd3 : ¬ (d = 479) := by omega
  have Hright : Hid (∀ (A : Option Addr) (c : Nat) W, Calls Try.prog 139 #[.int .i64 p, secV x A c] W fun e w' => e = .returned (.int .i64 0) ∧ Below W.heap.size W w') := Lib.hid fun A c W => by rw [← hri]; exact right_any p x A c W
  have Hwr : Hid (∀ (A : Option Addr) (c : Nat) W, BytesAt W A x.body.length x.body → Calls Try.prog 141 #[.int .i64 p, secV x A c] W fun e w' => ∃ g', e = .returned (.slice (some ⟨g', 0, none⟩) 504 504) ∧
      w'.ownsRow W.heap.size 5 1 (.slice (some ⟨g', 0, none⟩) 504 504) 504 (bytesV (textS p x)) ∧ Below W.heap.size W w') := Lib.hid fun A c W hb => written_all p x A c W hri hb
  clear hri
  have Hsm : Hid (decide (textS p x = l.take 504) = false) := Lib.hid (by simpa using hsm)
  clear hsm
  have Hb := Lib.hid hb; clear hb
  have Hr := Lib.hid hr; clear hr hl
  go_enter Try.func58, Try.ntmps58
  go_wp2_with fail
  refine (none_any _ _).mono ?_; rintro e w1 ⟨rfl, rfl⟩
  go_wp2_with fail
  refine (IsBlank_any (some ⟨g, o, none⟩) 512 (d + 25) l _ (Hb.out.below (Bbox _ _)) (by omega) (by decide)).mono ?_
  rintro e w1 ⟨rfl, hb1⟩
  rw [World.size_alloc] at hb1
  have hx := zero_cells hb1
  have hB1 : Below w.heap.size w w1 := (Bbox w _).trans (hb1.mono (Nat.le_succ _))
  go_wp2_with fail
  refine (read_any g o d l w1 (Hb.out.below hB1) hd).mono ?_
  rintro e w2 hp
  rcases hp with ⟨hs, _⟩ | ⟨x', A, c', hs, rfl, hown2, hb2⟩
  case inl => rw [Hr.out] at hs; cases hs
  obtain rfl : x = x' := Option.some.inj (Hr.out.symm.trans hs)
  have hx2 := (hb2.block _ (blk_lt hx)).trans hx
  have hB2 := Bthen hB1 hb2
  have hz1 := hB1.size
  have hz1' := blk_lt hx
  obtain ⟨xk, xl, xq, xg, xb⟩ := x
  have Hright := Lib.hid Hright.out
  unfold secV at Hright Hwr
  unfold secV
  simp only at hown2
  simp only
  go_wp2_with fail
  have hx3 := (Below.heap_alloc w2 (.cells #[.int .i64 xk, .int .u64 (xl : Int), .int .i64 xq, .int .u64 (xg : Int), .slice A xb.length c'] 54) _ (blk_lt hx2)).trans hx2
  have hy3 := heap_alloc_new w2 (.cells #[.int .i64 xk, .int .u64 (xl : Int), .int .i64 xq, .int .u64 (xg : Int), .slice A xb.length c'] 54)
  have hb3 : Below w2.heap.size w2 (w2.alloc (.cells #[.int .i64 xk, .int .u64 (xl : Int), .int .i64 xq, .int .u64 (xg : Int), .slice A xb.length c'] 54)) := Bbox _ _
  generalize w2.alloc (.cells #[.int .i64 xk, .int .u64 (xl : Int), .int .i64 xq, .int .u64 (xg : Int), .slice A xb.length c'] 54) = w3 at hx3 hy3 hb3 ⊢
  have hB3 := Bthen hB2 hb3
  have hown3 := own_below hown2 hb3
  have hbody := BytesAt.own hown3
  have hbytes := Hb.out.below hB3
  clear hx hx2 hb1 hb2 hown2 hs
  have hbox := box_facts hy3
  have hbox0 := fun x => (hbox x).1
  have hbox1 := fun x => (hbox x).2.1
  have hbox2 := fun x => (hbox x).2.2.1
  have hbox3 := fun x => (hbox x).2.2.2.1
  have hbox4 := fun x => (hbox x).2.2.2.2
  have Hown3 := Lib.hid hown3
  have Hbody := Lib.hid hbody
  have Hbytes := Lib.hid hbytes
  clear hbox hown3 hbody hbytes
  refine wp_region_in (BelowW w3) [(0, true), (1, true), (2, true), (3, true), (4, true), (5, false), (6, true), (7, true), (8, true), (9, true), (10, true), (12, true), (13, true), (11, false), (14, false), (15, true), (16, true), (17, true), (18, true), (19, true), (20, true), (21, true), (22, true), (23, false), (24, true), (25, true)] (by kernel_rfl) (by kernel_rfl) (fun _ _ _ _ _ h => h) (inB_drew _) (fun hne => ?_)
  simp only [permOps, List.map_cons, List.map_nil, List.getD_cons_zero, List.getD_cons_succ]
  (repeat ((with_reducible refine wpPerm_F ?_); intro K hK; go_simp; refine hK _ _ ?_; clear hK K))
  (with_reducible refine wpPerm_G ?_); intro K K' hK hK'; go_simp
  refine (Hright.out A c' _).mono ?_
  rintro e y1 ⟨rfl, hy1⟩
  have hW1 : Below w3.heap.size w3 y1 := Bthen (Bdrew (Bnil w3)) hy1
  (refine hK _ _ ?_; clear hK hK' K K')
  refine ⟨inB_more hW1, ?_⟩
  (repeat ((with_reducible refine wpPerm_F ?_); intro K hK; go_simp; refine hK _ _ ?_; clear hK K))
  (with_reducible refine wpPerm_G ?_); intro K K' hK hK'; go_simp
  refine (Hwr.out A c' _ (Hbody.out.below hW1)).mono ?_
  rintro e y2 ⟨g2, rfl, hownT, hy2⟩
  have hW2 : Below w3.heap.size w3 y2 := Bthen hW1 hy2
  have HBT := Lib.hid (BytesAt.own hownT); clear hownT
  have Hb504 := Lib.hid (bytes_part (Hbytes.out.below hW2) 0 504 (by decide))
  (refine hK _ _ ?_; clear hK hK' K K')
  refine ⟨inB_more hW2, ?_⟩
  (repeat ((with_reducible refine wpPerm_F ?_); intro K hK; go_simp; refine hK _ _ ?_; clear hK K))
  (with_reducible refine wpPerm_G ?_); intro K K' hK hK'; go_simp
  refine (NSame_any (some ⟨g2, 0, none⟩) (some ⟨g, o, none⟩) 504 504 504 (d + 25) _ _ y2 HBT.out (by decide) Hb504.out (by omega) (by decide) (by decide)).mono ?_
  rintro e y3 ⟨rfl, hy3'⟩
  have hW3 : Below w3.heap.size w3 y3 := Bthen hW2 hy3'
  rw [List.drop_zero, Hsm.out]
  (refine hK _ _ ?_; clear hK hK' K K')
  refine ⟨inB_more hW3, ?_⟩
  (repeat ((with_reducible refine wpPerm_F ?_); intro K hK; go_simp; refine hK _ _ ?_; clear hK K))
  (with_reducible refine wpPerm_G ?_); intro K K' hK hK'; go_simp
  (refine hK' _ _ ?_; clear hK hK' K K')
  (repeat ((with_reducible refine wpPerm_F ?_); intro K hK; go_simp; refine hK _ _ ?_; clear hK K))
  refine wpPerm_nil ?_
  have hX := (hW3.block _ (blk_lt hx3)).trans hx3
  have hBf := hB3.trans (hW3.mono hB3.size)
  obtain ⟨z0, z1, z2, z3, z4, zf⟩ := cells5 hX
  clear hbox0 hbox1 hbox2 hbox3 hbox4
  go_wp2_with fail
  obtain ⟨V, hV, hXs, hFs⟩ := five_set hX (.int .i64 0) (.int .u64 0) (.int .i64 0) (.int .u64 0) (.slice none 0 0)
  rw [hV]
  obtain ⟨y0, y1', y2', y3', y4', yf⟩ := cells5 hXs
  refine bodyPost_ret (v := .tuple #[.agg #[.int .i64 0, .int .u64 0, .int .i64 0, .int .u64 0, .slice none 0 0], .int .i64 11]) ?_ rfl (DecPost.zero (hBf.trans (hFs.own (Nat.le_refl _) hBf.size)))
  simp [results, Try.results58, go_sem, y0, y1', y2', y3', y4']

set_option maxRecDepth 100000 in
set_option maxHeartbeats 2000000 in
theorem Decode_sum (p : Int) (g o d : Nat) (l : List UInt8) (x : Sec) (hK : SuitP w u K S) (hb : BytesAt w (some ⟨g, o, none⟩) 512 l) (hd : 487 ≤ d) (hl : l ≠ blankS) (hr : readS l = some x) (hri : rightS p x = 0) (hsm : textS p x = l.take 504) (hck : checkK K (l.take 504) (l.drop 504) = false) :
    Calls Try.prog 58 #[.pointer (some ⟨u, 0, none⟩), .int .i64 p, .slice (some ⟨g, o, none⟩) 512 (d + 25)] w fun e w' => DecPost (11, secZero) w e w' := by
  have hdb : decide (l = blankS) = false := by simpa using hl
  have hd1 : (504 : Int) ≤ (d : Int) + 25 := by omega
  have hd2 : ¬ (d + 25 = 504) := by omega
  have hd3 : ¬ (d = 479) := by omega
  have Hright : Hid (∀ (A : Option Addr) (c : Nat) W, Calls Try.prog 139 #[.int .i64 p, secV x A c] W fun e w' => e = .returned (.int .i64 0) ∧ Below W.heap.size W w') := Lib.hid fun A c W => by rw [← hri]; exact right_any p x A c W
  have Hwr : Hid (∀ (A : Option Addr) (c : Nat) W, BytesAt W A x.body.length x.body → Calls Try.prog 141 #[.int .i64 p, secV x A c] W fun e w' => ∃ g', e = .returned (.slice (some ⟨g', 0, none⟩) 504 504) ∧
      w'.ownsRow W.heap.size 5 1 (.slice (some ⟨g', 0, none⟩) 504 504) 504 (bytesV (textS p x)) ∧ Below W.heap.size W w') := Lib.hid fun A c W hb => written_all p x A c W hri hb
  clear hri
  have Hsm : Hid (decide (textS p x = l.take 504) = true) := Lib.hid (by simpa using hsm)
  clear hsm
  have Hck : Hid (checkK K (l.take 504) (l.drop 504) = false) := Lib.hid (by exact hck)
  have Hl8 : Hid ((l.drop 504).length ≤ 8) := Lib.hid (by rw [List.length_drop, hb.len]; decide)
  clear hck
  have Hb := Lib.hid hb; clear hb
  have Hr := Lib.hid hr; clear hr hl
  go_enter Try.func58, Try.ntmps58
  go_wp2_with fail
  refine (none_any _ _).mono ?_; rintro e w1 ⟨rfl, rfl⟩
  go_wp2_with fail
  refine (IsBlank_any (some ⟨g, o, none⟩) 512 (d + 25) l _ (Hb.out.below (Bbox _ _)) (by omega) (by decide)).mono ?_
  rintro e w1 ⟨rfl, hb1⟩
  rw [World.size_alloc] at hb1
  have hx := zero_cells hb1
  have hB1 : Below w.heap.size w w1 := (Bbox w _).trans (hb1.mono (Nat.le_succ _))
  go_wp2_with fail
  refine (read_any g o d l w1 (Hb.out.below hB1) hd).mono ?_
  rintro e w2 hp
  rcases hp with ⟨hs, _⟩ | ⟨x', A, c', hs, rfl, hown2, hb2⟩
  case inl => rw [Hr.out] at hs; cases hs
  obtain rfl : x = x' := Option.some.inj (Hr.out.symm.trans hs)
  have hx2 := (hb2.block _ (blk_lt hx)).trans hx
  have hB2 := Bthen hB1 hb2
  have hz1 := hB1.size
  have hz1' := blk_lt hx
  obtain ⟨xk, xl, xq, xg, xb⟩ := x
  have Hright := Lib.hid Hright.out
  unfold secV at Hright Hwr
  unfold secV
  simp only at hown2
  simp only
  go_wp2_with fail
  have hx3 := (Below.heap_alloc w2 (.cells #[.int .i64 xk, .int .u64 (xl : Int), .int .i64 xq, .int .u64 (xg : Int), .slice A xb.length c'] 54) _ (blk_lt hx2)).trans hx2
  have hy3 := heap_alloc_new w2 (.cells #[.int .i64 xk, .int .u64 (xl : Int), .int .i64 xq, .int .u64 (xg : Int), .slice A xb.length c'] 54)
  have hb3 : Below w2.heap.size w2 (w2.alloc (.cells #[.int .i64 xk, .int .u64 (xl : Int), .int .i64 xq, .int .u64 (xg : Int), .slice A xb.length c'] 54)) := Bbox _ _
  generalize w2.alloc (.cells #[.int .i64 xk, .int .u64 (xl : Int), .int .i64 xq, .int .u64 (xg : Int), .slice A xb.length c'] 54) = w3 at hx3 hy3 hb3 ⊢
  have hB3 := Bthen hB2 hb3
  have hown3 := own_below hown2 hb3
  have hbody := BytesAt.own hown3
  have hbytes := Hb.out.below hB3
  clear hx hx2 hb1 hb2 hown2 hs
  have hbox := box_facts hy3
  have hbox0 := fun x => (hbox x).1
  have hbox1 := fun x => (hbox x).2.1
  have hbox2 := fun x => (hbox x).2.2.1
  have hbox3 := fun x => (hbox x).2.2.2.1
  have hbox4 := fun x => (hbox x).2.2.2.2
  have Hown3 := Lib.hid hown3
  have Hbody := Lib.hid hbody
  have Hbytes := Lib.hid hbytes
  clear hbox hown3 hbody hbytes
  refine wp_region_in (BelowW w3) [(0, true), (1, true), (2, true), (3, true), (4, true), (5, false), (6, true), (7, true), (8, true), (9, true), (10, true), (12, true), (13, true), (11, false), (14, false), (15, true), (16, true), (17, true), (18, true), (19, true), (20, true), (21, true), (22, true), (23, false), (24, true), (25, true)] (by kernel_rfl) (by kernel_rfl) (fun _ _ _ _ _ h => h) (inB_drew _) (fun hne => ?_)
  simp only [permOps, List.map_cons, List.map_nil, List.getD_cons_zero, List.getD_cons_succ]
  (repeat ((with_reducible refine wpPerm_F ?_); intro K hK; go_simp; refine hK _ _ ?_; clear hK K))
  (with_reducible refine wpPerm_G ?_); intro K K' hK hK'; go_simp
  refine (Hright.out A c' _).mono ?_
  rintro e y1 ⟨rfl, hy1⟩
  have hW1 : Below w3.heap.size w3 y1 := Bthen (Bdrew (Bnil w3)) hy1
  (refine hK _ _ ?_; clear hK hK' K K')
  refine ⟨inB_more hW1, ?_⟩
  (repeat ((with_reducible refine wpPerm_F ?_); intro K hK; go_simp; refine hK _ _ ?_; clear hK K))
  (with_reducible refine wpPerm_G ?_); intro K K' hK hK'; go_simp
  refine (Hwr.out A c' _ (Hbody.out.below hW1)).mono ?_
  rintro e y2 ⟨g2, rfl, hownT, hy2⟩
  have hW2 : Below w3.heap.size w3 y2 := Bthen hW1 hy2
  have HBT := Lib.hid (BytesAt.own hownT); clear hownT
  have Hb504 := Lib.hid (bytes_part (Hbytes.out.below hW2) 0 504 (by decide))
  (refine hK _ _ ?_; clear hK hK' K K')
  refine ⟨inB_more hW2, ?_⟩
  (repeat ((with_reducible refine wpPerm_F ?_); intro K hK; go_simp; refine hK _ _ ?_; clear hK K))
  (with_reducible refine wpPerm_G ?_); intro K K' hK hK'; go_simp
  refine (NSame_any (some ⟨g2, 0, none⟩) (some ⟨g, o, none⟩) 504 504 504 (d + 25) _ _ y2 HBT.out (by decide) Hb504.out (by omega) (by decide) (by decide)).mono ?_
  rintro e y3 ⟨rfl, hy3'⟩
  have hW3 : Below w3.heap.size w3 y3 := Bthen hW2 hy3'
  rw [List.drop_zero, Hsm.out]
  (refine hK _ _ ?_; clear hK hK' K K')
  refine ⟨inB_more hW3, ?_⟩
  (repeat ((with_reducible refine wpPerm_F ?_); intro K hK; go_simp; refine hK _ _ ?_; clear hK K))
  have Hb8 := Lib.hid (bytes_part (Hbytes.out.below hW3) 504 8 (by decide))
  have Hb504b := Lib.hid (bytes_part (Hbytes.out.below hW3) 0 504 (by decide))
  have hKy := hK.below (hB3.trans (hW3.mono hB3.size))
  (with_reducible refine wpPerm_G ?_); intro K K' hK hK'; go_simp
  refine (Check_any (some ⟨g, o, none⟩) (some ⟨g, o + 504, none⟩) 504 (d + 25) 8 (d - 479) _ _ hKy Hb504b.out Hb8.out (by omega) (by decide) (by decide) (by decide)).mono ?_
  rintro e y4 ⟨rfl, hy4⟩
  have hW4 : Below w3.heap.size w3 y4 := Bthen hW3 hy4
  rw [List.drop_zero, List.take_of_length_le (l := l.drop 504) Hl8.out, Hck.out]
  (refine hK _ _ ?_; clear hK hK' K K')
  refine ⟨inB_more hW4, ?_⟩
  (repeat ((with_reducible refine wpPerm_F ?_); intro K hK; go_simp; refine hK _ _ ?_; clear hK K))
  refine wpPerm_nil ?_
  have hX := (hW4.block _ (blk_lt hx3)).trans hx3
  have hBf := hB3.trans (hW4.mono hB3.size)
  obtain ⟨z0, z1, z2, z3, z4, zf⟩ := cells5 hX
  clear hbox0 hbox1 hbox2 hbox3 hbox4
  go_wp2_with fail
  obtain ⟨V, hV, hXs, hFs⟩ := five_set hX (.int .i64 0) (.int .u64 0) (.int .i64 0) (.int .u64 0) (.slice none 0 0)
  rw [hV]
  obtain ⟨y0, y1', y2', y3', y4', yf⟩ := cells5 hXs
  refine bodyPost_ret (v := .tuple #[.agg #[.int .i64 0, .int .u64 0, .int .i64 0, .int .u64 0, .slice none 0 0], .int .i64 11]) ?_ rfl (DecPost.zero (hBf.trans (hFs.own (Nat.le_refl _) hBf.size)))
  simp [results, Try.results58, go_sem, y0, y1', y2', y3', y4']

set_option maxRecDepth 100000 in
set_option maxHeartbeats 2000000 in
theorem Decode_yes (p : Int) (g o d : Nat) (l : List UInt8) (x : Sec) (hK : SuitP w u K S) (hb : BytesAt w (some ⟨g, o, none⟩) 512 l) (hd : 487 ≤ d) (hl : l ≠ blankS) (hr : readS l = some x) (hri : rightS p x = 0) (hsm : textS p x = l.take 504) (hck : checkK K (l.take 504) (l.drop 504) = true) :
    Calls Try.prog 58 #[.pointer (some ⟨u, 0, none⟩), .int .i64 p, .slice (some ⟨g, o, none⟩) 512 (d + 25)] w fun e w' => DecPost (0, x) w e w' := by
  have hdb : decide (l = blankS) = false := by simpa using hl
  have hd1 : (504 : Int) ≤ (d : Int) + 25 := by omega
  have hd2 : ¬ (d + 25 = 504) := by omega
  have hd3 : ¬ (d = 479) := by omega
  have Hright : Hid (∀ (A : Option Addr) (c : Nat) W, Calls Try.prog 139 #[.int .i64 p, secV x A c] W fun e w' => e = .returned (.int .i64 0) ∧ Below W.heap.size W w') := Lib.hid fun A c W => by rw [← hri]; exact right_any p x A c W
  have Hwr : Hid (∀ (A : Option Addr) (c : Nat) W, BytesAt W A x.body.length x.body → Calls Try.prog 141 #[.int .i64 p, secV x A c] W fun e w' => ∃ g', e = .returned (.slice (some ⟨g', 0, none⟩) 504 504) ∧
      w'.ownsRow W.heap.size 5 1 (.slice (some ⟨g', 0, none⟩) 504 504) 504 (bytesV (textS p x)) ∧ Below W.heap.size W w') := Lib.hid fun A c W hb => written_all p x A c W hri hb
  clear hri
  have Hsm : Hid (decide (textS p x = l.take 504) = true) := Lib.hid (by simpa using hsm)
  clear hsm
  have Hck : Hid (checkK K (l.take 504) (l.drop 504) = true) := Lib.hid (by exact hck)
  have Hl8 : Hid ((l.drop 504).length ≤ 8) := Lib.hid (by rw [List.length_drop, hb.len]; decide)
  clear hck
  have Hb := Lib.hid hb; clear hb
  have Hr := Lib.hid hr; clear hr hl
  go_enter Try.func58, Try.ntmps58
  go_wp2_with fail
  refine (none_any _ _).mono ?_; rintro e w1 ⟨rfl, rfl⟩
  go_wp2_with fail
  refine (IsBlank_any (some ⟨g, o, none⟩) 512 (d + 25) l _ (Hb.out.below (Bbox _ _)) (by omega) (by decide)).mono ?_
  rintro e w1 ⟨rfl, hb1⟩
  rw [World.size_alloc] at hb1
  have hx := zero_cells hb1
  have hB1 : Below w.heap.size w w1 := (Bbox w _).trans (hb1.mono (Nat.le_succ _))
  go_wp2_with fail
  refine (read_any g o d l w1 (Hb.out.below hB1) hd).mono ?_
  rintro e w2 hp
  rcases hp with ⟨hs, _⟩ | ⟨x', A, c', hs, rfl, hown2, hb2⟩
  case inl => rw [Hr.out] at hs; cases hs
  obtain rfl : x = x' := Option.some.inj (Hr.out.symm.trans hs)
  have hx2 := (hb2.block _ (blk_lt hx)).trans hx
  have hB2 := Bthen hB1 hb2
  have hz1 := hB1.size
  have hz1' := blk_lt hx
  obtain ⟨xk, xl, xq, xg, xb⟩ := x
  have Hright := Lib.hid Hright.out
  unfold secV at Hright Hwr
  unfold secV
  simp only at hown2
  simp only
  go_wp2_with fail
  have hx3 := (Below.heap_alloc w2 (.cells #[.int .i64 xk, .int .u64 (xl : Int), .int .i64 xq, .int .u64 (xg : Int), .slice A xb.length c'] 54) _ (blk_lt hx2)).trans hx2
  have hy3 := heap_alloc_new w2 (.cells #[.int .i64 xk, .int .u64 (xl : Int), .int .i64 xq, .int .u64 (xg : Int), .slice A xb.length c'] 54)
  have hb3 : Below w2.heap.size w2 (w2.alloc (.cells #[.int .i64 xk, .int .u64 (xl : Int), .int .i64 xq, .int .u64 (xg : Int), .slice A xb.length c'] 54)) := Bbox _ _
  generalize w2.alloc (.cells #[.int .i64 xk, .int .u64 (xl : Int), .int .i64 xq, .int .u64 (xg : Int), .slice A xb.length c'] 54) = w3 at hx3 hy3 hb3 ⊢
  have hB3 := Bthen hB2 hb3
  have hown3 := own_below hown2 hb3
  have hbody := BytesAt.own hown3
  have hbytes := Hb.out.below hB3
  clear hx hx2 hb1 hb2 hown2 hs
  have hbox := box_facts hy3
  have hbox0 := fun x => (hbox x).1
  have hbox1 := fun x => (hbox x).2.1
  have hbox2 := fun x => (hbox x).2.2.1
  have hbox3 := fun x => (hbox x).2.2.2.1
  have hbox4 := fun x => (hbox x).2.2.2.2
  have Hown3 := Lib.hid hown3
  have Hbody := Lib.hid hbody
  have Hbytes := Lib.hid hbytes
  clear hbox hown3 hbody hbytes
  refine wp_region_in (BelowW w3) [(0, true), (1, true), (2, true), (3, true), (4, true), (5, false), (6, true), (7, true), (8, true), (9, true), (10, true), (12, true), (13, true), (11, false), (14, false), (15, true), (16, true), (17, true), (18, true), (19, true), (20, true), (21, true), (22, true), (23, false), (24, true), (25, true)] (by kernel_rfl) (by kernel_rfl) (fun _ _ _ _ _ h => h) (inB_drew _) (fun hne => ?_)
  simp only [permOps, List.map_cons, List.map_nil, List.getD_cons_zero, List.getD_cons_succ]
  (repeat ((with_reducible refine wpPerm_F ?_); intro K hK; go_simp; refine hK _ _ ?_; clear hK K))
  (with_reducible refine wpPerm_G ?_); intro K K' hK hK'; go_simp
  refine (Hright.out A c' _).mono ?_
  rintro e y1 ⟨rfl, hy1⟩
  have hW1 : Below w3.heap.size w3 y1 := Bthen (Bdrew (Bnil w3)) hy1
  (refine hK _ _ ?_; clear hK hK' K K')
  refine ⟨inB_more hW1, ?_⟩
  (repeat ((with_reducible refine wpPerm_F ?_); intro K hK; go_simp; refine hK _ _ ?_; clear hK K))
  (with_reducible refine wpPerm_G ?_); intro K K' hK hK'; go_simp
  refine (Hwr.out A c' _ (Hbody.out.below hW1)).mono ?_
  rintro e y2 ⟨g2, rfl, hownT, hy2⟩
  have hW2 : Below w3.heap.size w3 y2 := Bthen hW1 hy2
  have HBT := Lib.hid (BytesAt.own hownT); clear hownT
  have Hb504 := Lib.hid (bytes_part (Hbytes.out.below hW2) 0 504 (by decide))
  (refine hK _ _ ?_; clear hK hK' K K')
  refine ⟨inB_more hW2, ?_⟩
  (repeat ((with_reducible refine wpPerm_F ?_); intro K hK; go_simp; refine hK _ _ ?_; clear hK K))
  (with_reducible refine wpPerm_G ?_); intro K K' hK hK'; go_simp
  refine (NSame_any (some ⟨g2, 0, none⟩) (some ⟨g, o, none⟩) 504 504 504 (d + 25) _ _ y2 HBT.out (by decide) Hb504.out (by omega) (by decide) (by decide)).mono ?_
  rintro e y3 ⟨rfl, hy3'⟩
  have hW3 : Below w3.heap.size w3 y3 := Bthen hW2 hy3'
  rw [List.drop_zero, Hsm.out]
  (refine hK _ _ ?_; clear hK hK' K K')
  refine ⟨inB_more hW3, ?_⟩
  (repeat ((with_reducible refine wpPerm_F ?_); intro K hK; go_simp; refine hK _ _ ?_; clear hK K))
  have Hb8 := Lib.hid (bytes_part (Hbytes.out.below hW3) 504 8 (by decide))
  have Hb504b := Lib.hid (bytes_part (Hbytes.out.below hW3) 0 504 (by decide))
  have hKy := hK.below (hB3.trans (hW3.mono hB3.size))
  (with_reducible refine wpPerm_G ?_); intro K K' hK hK'; go_simp
  refine (Check_any (some ⟨g, o, none⟩) (some ⟨g, o + 504, none⟩) 504 (d + 25) 8 (d - 479) _ _ hKy Hb504b.out Hb8.out (by omega) (by decide) (by decide) (by decide)).mono ?_
  rintro e y4 ⟨rfl, hy4⟩
  have hW4 : Below w3.heap.size w3 y4 := Bthen hW3 hy4
  rw [List.drop_zero, List.take_of_length_le (l := l.drop 504) Hl8.out, Hck.out]
  (refine hK _ _ ?_; clear hK hK' K K')
  refine ⟨inB_more hW4, ?_⟩
  (repeat ((with_reducible refine wpPerm_F ?_); intro K hK; go_simp; refine hK _ _ ?_; clear hK K))
  refine wpPerm_nil ?_
  have hX := (hW4.block _ (blk_lt hx3)).trans hx3
  have hY := (hW4.block _ (blk_lt hy3)).trans hy3
  have hBf := hB3.trans (hW4.mono hB3.size)
  have hownf := own_below Hown3.out hW4
  have hlt := blk_lt hx3
  obtain ⟨z0, z1, z2, z3, z4, zf⟩ := cells5 hX
  obtain ⟨v0, v1, v2, v3, v4, vf⟩ := cells5 hY
  clear hbox0 hbox1 hbox2 hbox3 hbox4
  go_wp2_with fail
  obtain ⟨V, hV, hXs, hFs⟩ := five_set hX (.int .i64 xk) (.int .u64 (xl : Int)) (.int .i64 xq) (.int .u64 (xg : Int)) (.slice A xb.length c')
  rw [hV]
  obtain ⟨y0, y1', y2', y3', y4', yf⟩ := cells5 hXs
  refine bodyPost_ret (v := .tuple #[.agg #[.int .i64 xk, .int .u64 (xl : Int), .int .i64 xq, .int .u64 (xg : Int), .slice A xb.length c'], .int .i64 0]) ?_ rfl ⟨A, c', rfl, ?_, hBf.trans (hFs.own (Nat.le_refl _) hBf.size)⟩
  · simp [results, Try.results58, go_sem, y0, y1', y2', y3', y4']
  · exact own_mono (own_frame hownf hFs (fun k hk => by omega)) hz1

theorem part_take (l : List UInt8) (i k : Nat) (h : i + k ≤ 504) : ((l.take 504).drop i).take k = (l.drop i).take k := by
  rw [List.drop_take, List.take_take, Nat.min_eq_left (by omega)]
theorem readS_take (l : List UInt8) : readS (l.take 504) = readS l := by
  unfold readS
  rw [part_take l 23 2 (by decide), part_take l 3 8 (by decide), part_take l 11 4 (by decide), part_take l 15 8 (by decide), List.take_take]
  by_cases h : 479 < getB ((l.drop 23).take 2)
  · rw [if_pos h, if_pos h]
  · rw [if_neg h, if_neg h, part_take l 25 _ (by omega)]
    rfl

/-- Decode, whatever the bytes. -/
theorem Decode_any (p : Int) (g o c : Nat) (l : List UInt8) (hK : SuitP w u K S) (hb : BytesAt w (some ⟨g, o, none⟩) 512 l) (hc : 512 ≤ c) :
    Calls Try.prog 58 #[.pointer (some ⟨u, 0, none⟩), .int .i64 p, .slice (some ⟨g, o, none⟩) 512 c] w fun e w' => DecPost (decK K p l) w e w' := by
  unfold decK
  rw [if_neg (by rw [hb.len]; simp)]
  by_cases hl : l = blankS
  · rw [if_pos hl]; exact Decode_blank p g o c l u w hb hc hl
  · rw [if_neg hl]
    obtain ⟨d, rfl⟩ : ∃ d, c = d + 25 := ⟨c - 25, by omega⟩
    unfold ofS
    rw [readS_take]
    cases hr : readS l with
    | none => exact Decode_none p g o d l u w hb (by omega) hl hr
    | some x =>
      simp only
      by_cases hri : rightS p x = 0
      · by_cases hsm : textS p x = l.take 504
        · rw [if_pos ⟨hri, hsm⟩]
          cases hck : checkK K (l.take 504) (l.drop 504) with
          | false => exact Decode_sum p g o d l x hK hb (by omega) hl hr hri hsm hck
          | true => exact Decode_yes p g o d l x hK hb (by omega) hl hr hri hsm hck
        · rw [if_neg (fun h => hsm h.2)]
          exact Decode_text p g o d l x hb (by omega) hl hr hri hsm
      · rw [if_neg (fun h => hri h.1)]
        exact Decode_right p g o d l x hb (by omega) hl hr hri

end
end Go.Proofs.Ytdjndeleafhglaa
namespace Go.Proofs.Ytdjndeleafhglaa
open Go.RowKit

set_option maxRecDepth 100000 in
set_option maxHeartbeats 1000000 in
theorem of_any (x : Sec) (A : Option Addr) (c : Nat) (w : World) : Calls Try.prog 67 #[secV x A c] w fun e w' => e = .returned (secV x A c) ∧ Below w.heap.size w w' := by
  unfold secV
  go_enter Try.func67, Try.ntmps67
  go_wp2_with fail
  refine bodyPost_ret (v := .agg #[.int .i64 x.kind, .int .u64 (x.life : Int), .int .i64 x.seq, .int .u64 (x.gen : Int), .slice A x.body.length c]) ?_ rfl ⟨rfl, ?_⟩
  · simp [results, Try.results67, go_sem]
  · ((repeat (first | (with_reducible exact Bnil _) | (with_reducible assumption) | (with_reducible refine Bset ?_ ?_ _) | (with_reducible refine Bnew ?_ _) | (with_reducible refine Bdrew ?_) | (with_reducible refine Bthen ?_ (by assumption)))); all_goals (simp; try omega))
set_option maxRecDepth 100000 in
set_option maxHeartbeats 1000000 in
theorem back_any (x : Sec) (A : Option Addr) (c : Nat) (w : World) : Calls Try.prog 65 #[secV x A c] w fun e w' => e = .returned (secV x A c) ∧ Below w.heap.size w w' := by
  unfold secV
  go_enter Try.func65, Try.ntmps65
  go_wp2_with fail
  refine bodyPost_ret (v := .agg #[.int .i64 x.kind, .int .u64 (x.life : Int), .int .i64 x.seq, .int .u64 (x.gen : Int), .slice A x.body.length c]) ?_ rfl ⟨rfl, ?_⟩
  · simp [results, Try.results65, go_sem]
  · ((repeat (first | (with_reducible exact Bnil _) | (with_reducible assumption) | (with_reducible refine Bset ?_ ?_ _) | (with_reducible refine Bnew ?_ _) | (with_reducible refine Bdrew ?_) | (with_reducible refine Bthen ?_ (by assumption)))); all_goals (simp; try omega))

set_option maxRecDepth 100000 in
set_option maxHeartbeats 4000000 in
theorem SSame_any (x y : Sec) (A B : Option Addr) (ca cb : Nat) (w : World) (ha : BytesAt w A x.body.length x.body) (hca : x.body.length ≤ ca) (hb : BytesAt w B y.body.length y.body) (hcb : y.body.length ≤ cb) (hn : x.body.length ≤ 140737488351232) (hm : y.body.length ≤ 140737488351232) :
    Calls Try.prog 69 #[secV x A ca, secV y B cb] w fun e w' => e = .returned (.bool (decide (x = y))) ∧ Below w.heap.size w w' := by
  have hy : decide (x = y) = (decide (x.kind = y.kind) && (decide (x.life = y.life) && (decide (x.seq = y.seq) && (decide (x.gen = y.gen) && decide (x.body = y.body))))) := by
    rw [Bool.eq_iff_iff]; simp [Sec.eq_iff]
  rw [hy]
  obtain ⟨k, l, q, g, b⟩ := x
  obtain ⟨k', l', q', g', b'⟩ := y
  unfold secV
  simp only at *
  clear hy
  have Ha := Lib.hid ha; clear ha
  have Hb := Lib.hid hb; clear hb
  by_cases h1 : k = k'
  case neg =>
    go_enter Try.func69, Try.ntmps69
    go_wp2_with fail
    go_ret
    exact ⟨ret_bool (by simp [h1]), by ((repeat (first | (with_reducible exact Bnil _) | (with_reducible assumption) | (with_reducible refine Bset ?_ ?_ _) | (with_reducible refine Bnew ?_ _) | (with_reducible refine Bdrew ?_) | (with_reducible refine Bthen ?_ (by assumption)))); all_goals (simp; try omega))⟩
  subst h1
  by_cases h2 : l = l'
  case neg =>
    have h2' : ¬ (l : Int) = (l' : Int) := by omega
    go_enter Try.func69, Try.ntmps69
    go_wp2_with fail
    go_ret
    exact ⟨ret_bool (by simp [h2]), by ((repeat (first | (with_reducible exact Bnil _) | (with_reducible assumption) | (with_reducible refine Bset ?_ ?_ _) | (with_reducible refine Bnew ?_ _) | (with_reducible refine Bdrew ?_) | (with_reducible refine Bthen ?_ (by assumption)))); all_goals (simp; try omega))⟩
  subst h2
  by_cases h3 : q = q'
  case neg =>
    go_enter Try.func69, Try.ntmps69
    go_wp2_with fail
    go_ret
    exact ⟨ret_bool (by simp [h3]), by ((repeat (first | (with_reducible exact Bnil _) | (with_reducible assumption) | (with_reducible refine Bset ?_ ?_ _) | (with_reducible refine Bnew ?_ _) | (with_reducible refine Bdrew ?_) | (with_reducible refine Bthen ?_ (by assumption)))); all_goals (simp; try omega))⟩
  subst h3
  by_cases h4 : g = g'
  case neg =>
    have h4' : ¬ (g : Int) = (g' : Int) := by omega
    go_enter Try.func69, Try.ntmps69
    go_wp2_with fail
    go_ret
    exact ⟨ret_bool (by simp [h4]), by ((repeat (first | (with_reducible exact Bnil _) | (with_reducible assumption) | (with_reducible refine Bset ?_ ?_ _) | (with_reducible refine Bnew ?_ _) | (with_reducible refine Bdrew ?_) | (with_reducible refine Bthen ?_ (by assumption)))); all_goals (simp; try omega))⟩
  subst h4
  have hbx : Below w.heap.size w ((w.alloc (.cells #[.int .i64 k, .int .u64 (l : Int), .int .i64 q, .int .u64 (g : Int), .slice A b.length ca] 54)).alloc (.cells #[.int .i64 k, .int .u64 (l : Int), .int .i64 q, .int .u64 (g : Int), .slice B b'.length cb] 54)) := Bnew (Bbox _ _) _
  have Ha2 := Lib.hid (Ha.out.below hbx)
  have Hb2 := Lib.hid (Hb.out.below hbx)
  have Hbx := Lib.hid hbx; clear hbx
  go_enter Try.func69, Try.ntmps69
  go_wp2_with fail
  refine (NSame_any A B b.length b'.length ca cb b b' _ Ha2.out hca Hb2.out hcb hn hm).mono ?_
  rintro e w1 ⟨rfl, hb1⟩
  go_wp2_with fail
  go_ret
  exact ⟨ret_bool (by simp), Bthen Hbx.out hb1⟩

theorem dec_blank (K : SU) (p : Int) : decK K p blankS = (7, secZero) := by
  unfold decK
  rw [if_neg (by rw [show blankS.length = 512 from List.length_replicate]; simp), if_pos rfl]

set_option maxRecDepth 100000 in
set_option maxHeartbeats 1000000 in
theorem alive18_any (w : World) : Calls Try.prog 57 #[] w fun e w' => e = .returned (.bool true) ∧ Below w.heap.size w w' := by
  go_enter Try.func57, Try.ntmps57
  go_wp2_with fail
  refine (Real_any w).mono ?_; rintro e w1 ⟨u, S, rfl, hK, hS, hb1⟩
  go_wp2_with fail
  refine (Blank_any w1).mono ?_; rintro e w2 ⟨A, c, rfl, hown, hb2⟩
  have hB := BytesAt.own hown
  have hc := own_cap hown
  obtain ⟨g, o, rfl, _⟩ := hB.at_ (by decide)
  have HK := Lib.hid (hK.below hb2); clear hK
  have HB := Lib.hid hB; clear hB hown
  have hB2 := Bthen hb1 hb2
  go_wp2_with fail
  refine (Decode_any 0 g o c blankS HK.out HB.out hc).mono ?_
  rintro e w3 hp
  rw [dec_blank] at hp
  obtain ⟨A3, c3, rfl, _, hb3⟩ := hp
  have hB3 := Bthen hB2 hb3
  unfold secV secZero
  go_wp2_with fail
  refine (Blank_any _).mono ?_; rintro e w4 ⟨A4, c4, rfl, hown4, hb4⟩
  have hB4 := BytesAt.own hown4
  have hc4 := own_cap hown4
  go_wp2_with fail
  refine (IsBlank_any A4 512 c4 blankS w4 hB4 hc4 (by decide)).mono ?_
  rintro e w5 ⟨rfl, hb5⟩
  go_wp2_with fail
  go_ret
  exact ⟨ret_bool (by simp), Bthen (Bthen (Bnew hB3 _) hb4) hb5⟩

end Go.Proofs.Ytdjndeleafhglaa
namespace Go.Proofs.Ytdjndeleafhglaa
open Go.RowKit

/-- What came in: two sectors, and bytes. -/
structure SecIn (w : World) (x : Sec) (A : Option Addr) (c : Nat) : Prop where
  at_ : BytesAt w A x.body.length x.body
  cap : x.body.length ≤ c
  life : x.life < 18446744073709551616
  gen : x.gen < 18446744073709551616
  big : x.body.length ≤ maxLen
theorem SecIn.below {w w' : World} {x : Sec} {A : Option Addr} {c : Nat} (h : SecIn w x A c) (hb : Below w.heap.size w w') : SecIn w' x A c := ⟨h.at_.below hb, h.cap, h.life, h.gen, h.big⟩

set_option maxRecDepth 100000 in
set_option maxHeartbeats 4000000 in
theorem SectorBytes_long (p : Int) (x y : Sec) (A B : Option Addr) (ca cb : Nat) (w : World) (h : 1000 < x.body.length ∨ 1000 < y.body.length) :
    Calls Try.prog 8 #[.int .i64 p, secV x A ca, secV y B cb] w fun e w' => e = .returned (.bool true) ∧ Below w.heap.size w w' := by
  unfold secV
  by_cases h1 : 1000 < x.body.length
  · have h1' : (1000 : Int) < (x.body.length : Int) := by omega
    go_enter Try.func8, Try.ntmps8
    go_wp2_with fail
    refine (alive18_any _).mono ?_; rintro e w1 ⟨rfl, hb1⟩
    go_wp2_with fail
    go_ret
    exact ⟨rfl, Bthen (Bnew (Bbox _ _) _) hb1⟩
  · have h1' : ¬ (1000 : Int) < (x.body.length : Int) := by omega
    have h2' : (1000 : Int) < (y.body.length : Int) := by omega
    go_enter Try.func8, Try.ntmps8
    go_wp2_with fail
    refine (alive18_any _).mono ?_; rintro e w1 ⟨rfl, hb1⟩
    go_wp2_with fail
    go_ret
    exact ⟨rfl, Bthen (Bnew (Bbox _ _) _) hb1⟩

set_option maxRecDepth 100000 in
set_option maxHeartbeats 4000000 in
theorem SectorBytes_no (p : Int) (x y : Sec) (A B : Option Addr) (ca cb : Nat) (w : World) (hx : SecIn w x A ca) (hy : SecIn w y B cb) (h1 : ¬ 1000 < x.body.length) (h2 : ¬ 1000 < y.body.length) (hr : rightS p x ≠ 0) :
    Calls Try.prog 8 #[.int .i64 p, secV x A ca, secV y B cb] w fun e w' => e = .returned (.bool true) ∧ Below w.heap.size w w' := by
  have h1' : ¬ (1000 : Int) < (x.body.length : Int) := by omega
  have h2' : ¬ (1000 : Int) < (y.body.length : Int) := by omega
  have hbx : Below w.heap.size w ((w.alloc (.cells #[.int .i64 x.kind, .int .u64 (x.life : Int), .int .i64 x.seq, .int .u64 (x.gen : Int), .slice A x.body.length ca] 60)).alloc (.cells #[.int .i64 y.kind, .int .u64 (y.life : Int), .int .i64 y.seq, .int .u64 (y.gen : Int), .slice B y.body.length cb] 60)) := Bnew (Bbox _ _) _
  have hX : ((w.alloc (.cells #[.int .i64 x.kind, .int .u64 (x.life : Int), .int .i64 x.seq, .int .u64 (x.gen : Int), .slice A x.body.length ca] 60)).alloc (.cells #[.int .i64 y.kind, .int .u64 (y.life : Int), .int .i64 y.seq, .int .u64 (y.gen : Int), .slice B y.body.length cb] 60)).heap[w.heap.size]? = some (.cells #[.int .i64 x.kind, .int .u64 (x.life : Int), .int .i64 x.seq, .int .u64 (x.gen : Int), .slice A x.body.length ca] 60 (0, 0)) := by
    rw [Below.heap_alloc _ _ _ (by simp)]; exact heap_alloc_new w _
  have hY : ((w.alloc (.cells #[.int .i64 x.kind, .int .u64 (x.life : Int), .int .i64 x.seq, .int .u64 (x.gen : Int), .slice A x.body.length ca] 60)).alloc (.cells #[.int .i64 y.kind, .int .u64 (y.life : Int), .int .i64 y.seq, .int .u64 (y.gen : Int), .slice B y.body.length cb] 60)).heap[w.heap.size + 1]? = some (.cells #[.int .i64 y.kind, .int .u64 (y.life : Int), .int .i64 y.seq, .int .u64 (y.gen : Int), .slice B y.body.length cb] 60 (0, 0)) := by
    have := heap_alloc_new (w.alloc (.cells #[.int .i64 x.kind, .int .u64 (x.life : Int), .int .i64 x.seq, .int .u64 (x.gen : Int), .slice A x.body.length ca] 60)) (.cells #[.int .i64 y.kind, .int .u64 (y.life : Int), .int .i64 y.seq, .int .u64 (y.gen : Int), .slice B y.body.length cb] 60)
    simpa using this
  unfold secV
  have Hbx := Lib.hid hbx; clear hbx
  have HX := Lib.hid hX; clear hX
  have HY := Lib.hid hY; clear hY
  have hrb : (rightS p x != 0) = true := by simpa using hr
  have Hr := Lib.hid hr
  go_enter Try.func8, Try.ntmps8
  go_wp2_with fail
  have hbx := Hbx.out
  have hX := HX.out
  have hY := HY.out
  clear Hbx HX HY
  generalize (w.alloc (.cells #[.int .i64 x.kind, .int .u64 (x.life : Int), .int .i64 x.seq, .int .u64 (x.gen : Int), .slice A x.body.length ca] 60)).alloc (.cells #[.int .i64 y.kind, .int .u64 (y.life : Int), .int .i64 y.seq, .int .u64 (y.gen : Int), .slice B y.body.length cb] 60) = W at hbx hX hY ⊢
  have hxW := hx.below hbx
  have hyW := hy.below hbx
  have hbox := box_facts hX
  have hbox0 := fun x => (hbox x).1
  have hbox1 := fun x => (hbox x).2.1
  have hbox2 := fun x => (hbox x).2.2.1
  have hbox3 := fun x => (hbox x).2.2.2.1
  have hbox4 := fun x => (hbox x).2.2.2.2
  clear hbox
  refine wp_region_in (BelowW W) [(1, true), (2, true), (0, false), (3, false), (4, false), (5, true), (6, true), (7, true), (8, true), (9, true)] (by kernel_rfl) (by kernel_rfl) (fun _ _ _ _ _ h => h) (inB_drew _) (fun hne => ?_)
  simp only [permOps, List.map_cons, List.map_nil, List.getD_cons_zero, List.getD_cons_succ]
  (repeat ((with_reducible refine wpPerm_F ?_); intro K hK; go_simp; refine hK _ _ ?_; clear hK K))
  (with_reducible refine wpPerm_E rfl ?_); intro K hK
  go_wp2_with fail
  refine (Real_any _).mono ?_; rintro e w1 ⟨u, S, rfl, hU, hS, hb1⟩
  have hW1 : Below W.heap.size W w1 := Bthen (Bdrew (Bnil W)) hb1
  (refine hK _ _ ?_; clear hK K)
  refine ⟨inB_more hW1, ?_⟩
  (repeat ((with_reducible refine wpPerm_F ?_); intro K hK; go_simp; refine hK _ _ ?_; clear hK K))
  (with_reducible refine wpPerm_E rfl ?_); intro K hK
  go_wp2_with fail
  refine (of_any x A ca w1).mono ?_; rintro e w2 ⟨rfl, hb2⟩
  have hW2 : Below W.heap.size W w2 := Bthen hW1 hb2
  (refine hK _ _ ?_; clear hK K)
  refine ⟨inB_more hW2, ?_⟩
  (with_reducible refine wpPerm_E rfl ?_); intro K hK
  go_wp2_with fail
  refine (Encode_no (u := u) p x A ca Hr.out).mono ?_; rintro e w3 ⟨rfl, hb3⟩
  have hW3 : Below W.heap.size W w3 := Bthen hW2 hb3
  (refine hK _ _ ?_; clear hK K)
  refine ⟨inB_more hW3, ?_⟩
  (repeat ((with_reducible refine wpPerm_F ?_); intro K hK; go_simp; refine hK _ _ ?_; clear hK K))
  refine wpPerm_nil ?_
  clear hbox0 hbox1 hbox2 hbox3 hbox4
  obtain ⟨a0, a1, a2, a3, a4, af⟩ := cells5 ((hW3.block _ (blk_lt hX)).trans hX)
  go_wp2_with fail
  refine (of_any x A ca w3).mono ?_; rintro e w4 ⟨rfl, hb4⟩
  have hW4 : Below W.heap.size W w4 := Bthen hW3 hb4
  go_wp2_with fail
  refine (Encode_nil p x A ca w4).mono ?_; rintro e w5 ⟨rfl, hb5⟩
  have hW5 : Below W.heap.size W w5 := Bthen hW4 hb5
  clear a0 a1 a2 a3 a4 af
  obtain ⟨a0, a1, a2, a3, a4, af⟩ := cells5 ((hW5.block _ (blk_lt hX)).trans hX)
  go_wp2_with fail
  have hx5 := hxW.below hW5
  refine (RRight18_any p x A ca w5 hx5.at_ hx5.cap (by omega)).mono ?_; rintro e w6 ⟨rfl, hb6⟩
  have hW6 : Below W.heap.size W w6 := Bthen hW5 hb6
  clear a0 a1 a2 a3 a4 af
  have xxb := box_facts ((hW6.block _ (blk_lt hX)).trans hX); have xx0 := fun x => (xxb x).1; have xx1 := fun x => (xxb x).2.1; have xx2 := fun x => (xxb x).2.2.1; have xx3 := fun x => (xxb x).2.2.2.1; have xx4 := fun x => (xxb x).2.2.2.2; clear xxb
  have yyb := box_facts ((hW6.block _ (blk_lt hY)).trans hY); have yy0 := fun x => (yyb x).1; have yy1 := fun x => (yyb x).2.1; have yy2 := fun x => (yyb x).2.2.1; have yy3 := fun x => (yyb x).2.2.2.1; have yy4 := fun x => (yyb x).2.2.2.2; clear yyb
  go_wp2_with fail
  refine wp_region_in (BelowW w6) [(0, true), (1, true), (2, true), (3, true), (4, true), (5, true), (6, true), (7, true), (8, true), (10, true), (13, true), (14, true), (9, false), (11, false), (12, false), (15, false), (16, true), (17, true)] (by kernel_rfl) (by kernel_rfl) (fun _ _ _ _ _ h => h) (inB_drew _) (fun hne => ?_)
  simp only [permOps, List.map_cons, List.map_nil, List.getD_cons_zero, List.getD_cons_succ]
  (repeat ((with_reducible refine wpPerm_F ?_); intro K hK; go_simp; refine hK _ _ ?_; clear hK K))
  (with_reducible refine wpPerm_G ?_); intro K K' hK hK'; go_simp
  refine (of_any x A ca _).mono ?_; rintro e y1 ⟨rfl, hc1⟩
  have hV1 : Below w6.heap.size w6 y1 := Bthen (Bdrew (Bnil w6)) hc1
  (refine hK _ _ ?_; clear hK hK' K K')
  refine ⟨inB_more hV1, ?_⟩
  (with_reducible refine wpPerm_G ?_); intro K K' hK hK'; go_simp
  refine (of_any y B cb _).mono ?_; rintro e y2 ⟨rfl, hc2⟩
  have hV2 : Below w6.heap.size w6 y2 := Bthen hV1 hc2
  (refine hK _ _ ?_; clear hK hK' K K')
  refine ⟨inB_more hV2, ?_⟩
  have hx6 := (hxW.below hW6).below hV2
  have hy6 := (hyW.below hW6).below hV2
  (with_reducible refine wpPerm_G ?_); intro K K' hK hK'; go_simp
  refine (SSame_any x y A B ca cb y2 hx6.at_ hx6.cap hy6.at_ hy6.cap (by omega) (by omega)).mono ?_; rintro e y3 ⟨rfl, hc3⟩
  have hV3 : Below w6.heap.size w6 y3 := Bthen hV2 hc3
  (refine hK _ _ ?_; clear hK hK' K K')
  refine ⟨inB_more hV3, ?_⟩
  have hx7 := hx6.below hc3
  have hy7 := hy6.below hc3
  (with_reducible refine wpPerm_G ?_); intro K K' hK hK'; go_simp
  refine (RSame18_any x y A B ca cb y3 hx7.at_ hx7.cap hy7.at_ hy7.cap (by omega) (by omega)).mono ?_; rintro e y4 ⟨rfl, hc4⟩
  have hV4 : Below w6.heap.size w6 y4 := Bthen hV3 hc4
  (refine hK _ _ ?_; clear hK hK' K K')
  refine ⟨inB_more hV4, ?_⟩
  clear hx6 hy6 hx7 hy7
  (repeat ((with_reducible refine wpPerm_F ?_); intro K hK; go_simp; refine hK _ _ ?_; clear hK K))
  refine wpPerm_nil ?_
  clear xx0 xx1 xx2 xx3 xx4 yy0 yy1 yy2 yy3 yy4
  have hWy : Below W.heap.size W y4 := hW6.trans (hV4.mono hW6.size)
  go_wp2_with fail
  refine (alive18_any _).mono ?_; rintro e w7 ⟨rfl, hb7⟩
  go_wp2_with fail
  go_ret
  exact ⟨rfl, hbx.trans ((Bthen hWy hb7).mono hbx.size)⟩

set_option maxRecDepth 100000 in
set_option maxHeartbeats 4000000 in
theorem SectorBytes_yes (p : Int) (x y : Sec) (A B : Option Addr) (ca cb : Nat) (w : World) (hx : SecIn w x A ca) (hy : SecIn w y B cb) (h1 : ¬ 1000 < x.body.length) (h2 : ¬ 1000 < y.body.length) (hr : rightS p x = 0) :
    Calls Try.prog 8 #[.int .i64 p, secV x A ca, secV y B cb] w fun e w' => e = .returned (.bool true) ∧ Below w.heap.size w w' := by
  have h1' : ¬ (1000 : Int) < (x.body.length : Int) := by omega
  have h2' : ¬ (1000 : Int) < (y.body.length : Int) := by omega
  have hbx : Below w.heap.size w ((w.alloc (.cells #[.int .i64 x.kind, .int .u64 (x.life : Int), .int .i64 x.seq, .int .u64 (x.gen : Int), .slice A x.body.length ca] 60)).alloc (.cells #[.int .i64 y.kind, .int .u64 (y.life : Int), .int .i64 y.seq, .int .u64 (y.gen : Int), .slice B y.body.length cb] 60)) := Bnew (Bbox _ _) _
  have hX : ((w.alloc (.cells #[.int .i64 x.kind, .int .u64 (x.life : Int), .int .i64 x.seq, .int .u64 (x.gen : Int), .slice A x.body.length ca] 60)).alloc (.cells #[.int .i64 y.kind, .int .u64 (y.life : Int), .int .i64 y.seq, .int .u64 (y.gen : Int), .slice B y.body.length cb] 60)).heap[w.heap.size]? = some (.cells #[.int .i64 x.kind, .int .u64 (x.life : Int), .int .i64 x.seq, .int .u64 (x.gen : Int), .slice A x.body.length ca] 60 (0, 0)) := by
    rw [Below.heap_alloc _ _ _ (by simp)]; exact heap_alloc_new w _
  have hY : ((w.alloc (.cells #[.int .i64 x.kind, .int .u64 (x.life : Int), .int .i64 x.seq, .int .u64 (x.gen : Int), .slice A x.body.length ca] 60)).alloc (.cells #[.int .i64 y.kind, .int .u64 (y.life : Int), .int .i64 y.seq, .int .u64 (y.gen : Int), .slice B y.body.length cb] 60)).heap[w.heap.size + 1]? = some (.cells #[.int .i64 y.kind, .int .u64 (y.life : Int), .int .i64 y.seq, .int .u64 (y.gen : Int), .slice B y.body.length cb] 60 (0, 0)) := by
    have := heap_alloc_new (w.alloc (.cells #[.int .i64 x.kind, .int .u64 (x.life : Int), .int .i64 x.seq, .int .u64 (x.gen : Int), .slice A x.body.length ca] 60)) (.cells #[.int .i64 y.kind, .int .u64 (y.life : Int), .int .i64 y.seq, .int .u64 (y.gen : Int), .slice B y.body.length cb] 60)
    simpa using this
  unfold secV
  have Hbx := Lib.hid hbx; clear hbx
  have HX := Lib.hid hX; clear hX
  have HY := Lib.hid hY; clear hY
  have Hr := Lib.hid hr; clear hr
  go_enter Try.func8, Try.ntmps8
  go_wp2_with fail
  have hbx := Hbx.out
  have hX := HX.out
  have hY := HY.out
  clear Hbx HX HY
  generalize (w.alloc (.cells #[.int .i64 x.kind, .int .u64 (x.life : Int), .int .i64 x.seq, .int .u64 (x.gen : Int), .slice A x.body.length ca] 60)).alloc (.cells #[.int .i64 y.kind, .int .u64 (y.life : Int), .int .i64 y.seq, .int .u64 (y.gen : Int), .slice B y.body.length cb] 60) = W at hbx hX hY ⊢
  have hxW := hx.below hbx
  have hyW := hy.below hbx
  have hbox := box_facts hX
  have hbox0 := fun x => (hbox x).1
  have hbox1 := fun x => (hbox x).2.1
  have hbox2 := fun x => (hbox x).2.2.1
  have hbox3 := fun x => (hbox x).2.2.2.1
  have hbox4 := fun x => (hbox x).2.2.2.2
  clear hbox
  refine wp_region_in (BelowW W) [(1, true), (2, true), (0, false), (3, false), (4, false), (5, true), (6, true), (7, true), (8, true), (9, true)] (by kernel_rfl) (by kernel_rfl) (fun _ _ _ _ _ h => h) (inB_drew _) (fun hne => ?_)
  simp only [permOps, List.map_cons, List.map_nil, List.getD_cons_zero, List.getD_cons_succ]
  (repeat ((with_reducible refine wpPerm_F ?_); intro K hK; go_simp; refine hK _ _ ?_; clear hK K))
  (with_reducible refine wpPerm_E rfl ?_); intro K hK
  go_wp2_with fail
  refine (Real_any _).mono ?_; rintro e w1 ⟨u, S, rfl, hU, hS, hb1⟩
  have hW1 : Below W.heap.size W w1 := Bthen (Bdrew (Bnil W)) hb1
  (refine hK _ _ ?_; clear hK K)
  refine ⟨inB_more hW1, ?_⟩
  (repeat ((with_reducible refine wpPerm_F ?_); intro K hK; go_simp; refine hK _ _ ?_; clear hK K))
  (with_reducible refine wpPerm_E rfl ?_); intro K hK
  go_wp2_with fail
  refine (of_any x A ca w1).mono ?_; rintro e w2 ⟨rfl, hb2⟩
  have hW2 : Below W.heap.size W w2 := Bthen hW1 hb2
  (refine hK _ _ ?_; clear hK K)
  refine ⟨inB_more hW2, ?_⟩
  (with_reducible refine wpPerm_E rfl ?_); intro K hK
  go_wp2_with fail
  have hx2 := (hxW.below hW2).at_
  refine (Encode_all p x A ca (hU.below hb2) Hr.out hx2 (by decide)).mono ?_; rintro e w3 ⟨A3, c3, rfl, hown3, _, hf3⟩
  have hb3 : Below W.heap.size w2 w3 := hf3.below (fun q hq => by have := hS q hq; exact this) hW2.size
  have hW3 : Below W.heap.size W w3 := hW2.trans hb3
  have Hown3 := Lib.hid (BytesAt.own hown3)
  have hcap3 := own_cap hown3
  clear hown3 hx2
  (refine hK _ _ ?_; clear hK K)
  refine ⟨inB_more hW3, ?_⟩
  (repeat ((with_reducible refine wpPerm_F ?_); intro K hK; go_simp; refine hK _ _ ?_; clear hK K))
  refine wpPerm_nil ?_
  clear hbox0 hbox1 hbox2 hbox3 hbox4
  obtain ⟨a0, a1, a2, a3, a4, af⟩ := cells5 ((hW3.block _ (blk_lt hX)).trans hX)
  go_wp2_with fail
  refine (of_any x A ca w3).mono ?_; rintro e w4 ⟨rfl, hb4⟩
  have hW4 : Below W.heap.size W w4 := Bthen hW3 hb4
  go_wp2_with fail
  refine (Encode_nil p x A ca w4).mono ?_; rintro e w5 ⟨rfl, hb5⟩
  have hW5 : Below W.heap.size W w5 := Bthen hW4 hb5
  clear a0 a1 a2 a3 a4 af
  obtain ⟨a0, a1, a2, a3, a4, af⟩ := cells5 ((hW5.block _ (blk_lt hX)).trans hX)
  go_wp2_with fail
  have hx5 := hxW.below hW5
  refine (RRight18_any p x A ca w5 hx5.at_ hx5.cap (by omega)).mono ?_; rintro e w6 ⟨rfl, hb6⟩
  have hW6 : Below W.heap.size W w6 := Bthen hW5 hb6
  rw [Hr.out]
  clear a0 a1 a2 a3 a4 af
  have xxb := box_facts ((hW6.block _ (blk_lt hX)).trans hX); have xx0 := fun x => (xxb x).1; have xx1 := fun x => (xxb x).2.1; have xx2 := fun x => (xxb x).2.2.1; have xx3 := fun x => (xxb x).2.2.2.1; have xx4 := fun x => (xxb x).2.2.2.2; clear xxb
  have yyb := box_facts ((hW6.block _ (blk_lt hY)).trans hY); have yy0 := fun x => (yyb x).1; have yy1 := fun x => (yyb x).2.1; have yy2 := fun x => (yyb x).2.2.1; have yy3 := fun x => (yyb x).2.2.2.1; have yy4 := fun x => (yyb x).2.2.2.2; clear yyb
  go_wp2_with fail
  refine wp_region_in (BelowW w6) [(0, true), (1, true), (2, true), (3, true), (4, true), (5, true), (6, true), (7, true), (8, true), (10, true), (13, true), (14, true), (9, false), (11, false), (12, false), (15, false), (16, true), (17, true)] (by kernel_rfl) (by kernel_rfl) (fun _ _ _ _ _ h => h) (inB_drew _) (fun hne => ?_)
  simp only [permOps, List.map_cons, List.map_nil, List.getD_cons_zero, List.getD_cons_succ]
  (repeat ((with_reducible refine wpPerm_F ?_); intro K hK; go_simp; refine hK _ _ ?_; clear hK K))
  (with_reducible refine wpPerm_G ?_); intro K K' hK hK'; go_simp
  refine (of_any x A ca _).mono ?_; rintro e y1 ⟨rfl, hc1⟩
  have hV1 : Below w6.heap.size w6 y1 := Bthen (Bdrew (Bnil w6)) hc1
  (refine hK _ _ ?_; clear hK hK' K K')
  refine ⟨inB_more hV1, ?_⟩
  (with_reducible refine wpPerm_G ?_); intro K K' hK hK'; go_simp
  refine (of_any y B cb _).mono ?_; rintro e y2 ⟨rfl, hc2⟩
  have hV2 : Below w6.heap.size w6 y2 := Bthen hV1 hc2
  (refine hK _ _ ?_; clear hK hK' K K')
  refine ⟨inB_more hV2, ?_⟩
  have hx6 := (hxW.below hW6).below hV2
  have hy6 := (hyW.below hW6).below hV2
  (with_reducible refine wpPerm_G ?_); intro K K' hK hK'; go_simp
  refine (SSame_any x y A B ca cb y2 hx6.at_ hx6.cap hy6.at_ hy6.cap (by omega) (by omega)).mono ?_; rintro e y3 ⟨rfl, hc3⟩
  have hV3 : Below w6.heap.size w6 y3 := Bthen hV2 hc3
  (refine hK _ _ ?_; clear hK hK' K K')
  refine ⟨inB_more hV3, ?_⟩
  have hx7 := hx6.below hc3
  have hy7 := hy6.below hc3
  (with_reducible refine wpPerm_G ?_); intro K K' hK hK'; go_simp
  refine (RSame18_any x y A B ca cb y3 hx7.at_ hx7.cap hy7.at_ hy7.cap (by omega) (by omega)).mono ?_; rintro e y4 ⟨rfl, hc4⟩
  have hV4 : Below w6.heap.size w6 y4 := Bthen hV3 hc4
  (refine hK _ _ ?_; clear hK hK' K K')
  refine ⟨inB_more hV4, ?_⟩
  clear hx6 hy6 hx7 hy7
  (repeat ((with_reducible refine wpPerm_F ?_); intro K hK; go_simp; refine hK _ _ ?_; clear hK K))
  refine wpPerm_nil ?_
  clear xx0 xx1 xx2 xx3 xx4 yy0 yy1 yy2 yy3 yy4
  have hWy : Below W.heap.size W y4 := hW6.trans (hV4.mono hW6.size)
  have HB3 := Lib.hid (((Hown3.out.below hb4).below hb5).below hb6 |>.below hV4)
  obtain ⟨a0, a1, a2, a3, a4, af⟩ := cells5 ((hWy.block _ (blk_lt hX)).trans hX)
  go_wp2_with fail
  have hxy := hxW.below hWy
  refine (RText_any p x A ca y4 hxy.at_ hxy.cap Hr.out hxy.life hxy.gen).mono ?_; rintro e z1 ⟨A7, c7, rfl, hown7, hd1⟩
  have hBT := BytesAt.own hown7
  have hcT := own_cap hown7
  obtain ⟨gt, ot, rfl, _⟩ := hBT.at_ (by decide)
  clear hown7 a0 a1 a2 a3 a4 af
  go_wp2_with fail
  refine (RBytes_any (some ⟨gt, ot, none⟩) 504 c7 _ z1 hBT hcT (by decide)).mono ?_; rintro e z2 ⟨A8, c8, rfl, hown8, hd2⟩
  have hBC := BytesAt.own hown8
  obtain ⟨gc, oc, rfl, _⟩ := hBC.at_ (by decide)
  have hBT2 := hBT.below hd2
  clear hown8
  go_wp2_with fail
  refine (Join_any gt ot 504 c7 gc oc 8 c8 _ _ z2 hBT2 hBC (by decide) (by decide)).mono ?_; rintro e z3 ⟨v, rfl, hownj, hd3⟩
  obtain ⟨Aj, cj, rfl⟩ := own_form hownj
  have hBJ := BytesAt.own hownj
  have hcj := own_cap hownj
  have hd13 := (hd1.trans (hd2.mono hd1.size)).trans (hd3.mono (Nat.le_trans hd1.size hd2.size))
  have hB3z := HB3.out.below hd13
  have henc : (encK none p x).1 = textS p x ++ crcB (textS p x) := rfl
  have hdec : decide ((encK none p x).1 = textS p x ++ crcB (textS p x)) = true := by simp [henc]
  clear hownj
  have Hdec := Lib.hid hdec; clear hdec henc
  go_wp2_with fail
  refine (RSame_any A3 Aj 512 512 c3 cj _ _ z3 hB3z hcap3 hBJ hcj (by decide) (by decide)).mono ?_; rintro e z4 ⟨rfl, hd4⟩
  rw [Hdec.out]
  have hB4z := hB3z.below hd4
  go_wp2_with fail
  refine (IsBlank_any A3 512 c3 _ z4 hB4z hcap3 (by decide)).mono ?_; rintro e z5 ⟨rfl, hd5⟩
  have hB5z := hB4z.below hd5
  go_wp2_with fail
  refine (RBlank_any A3 512 c3 _ z5 hB5z hcap3 (by decide)).mono ?_; rintro e z6 ⟨rfl, hd6⟩
  go_wp2_with fail
  refine (alive18_any _).mono ?_; rintro e z7 ⟨rfl, hd7⟩
  go_wp2_with fail
  go_ret
  have hfin := ((((Bthen (Bthen hWy hd1) hd2) |> (Bthen · hd3)) |> (Bthen · hd4)) |> (Bthen · hd5)) |> (Bthen · hd6) |> (Bthen · hd7)
  exact ⟨rfl, hbx.trans (hfin.mono hbx.size)⟩

theorem SectorBytes_walk (p : Int) (x y : Sec) (A B : Option Addr) (ca cb : Nat) (w : World) (hx : SecIn w x A ca) (hy : SecIn w y B cb) :
    Calls Try.prog 8 #[.int .i64 p, secV x A ca, secV y B cb] w fun e w' => e = .returned (.bool true) ∧ Below w.heap.size w w' := by
  by_cases h : 1000 < x.body.length ∨ 1000 < y.body.length
  · exact SectorBytes_long p x y A B ca cb w h
  · by_cases hr : rightS p x = 0
    · exact SectorBytes_yes p x y A B ca cb w hx hy (fun h1 => h (.inl h1)) (fun h1 => h (.inr h1)) hr
    · exact SectorBytes_no p x y A B ca cb w hx hy (fun h1 => h (.inl h1)) (fun h1 => h (.inr h1)) hr

end Go.Proofs.Ytdjndeleafhglaa
namespace Go.Proofs.Ytdjndeleafhglaa
open Go

def orderCodes : List Nat := [104, 97, 114, 110, 101, 115, 115, 32, 48, 54, 97, 100, 99, 48, 97, 101, 49, 53, 100, 48, 54, 101, 101, 100, 56, 50, 99, 52, 48, 48, 97, 52, 50, 50, 56, 55, 100, 100, 100, 102, 50, 57, 56, 48, 52, 98, 53, 54, 56, 97, 51, 97, 56, 48, 48, 57, 51, 51, 50, 48, 48, 97, 56, 97, 101, 56, 49, 101, 52, 98, 49, 53, 32, 99, 117, 116, 32, 97, 116, 32, 111, 117, 98, 108, 105, 101, 116, 116, 101, 47, 111, 117, 98, 108, 105, 101, 116, 116, 101, 108, 97, 119, 50, 49, 46, 71, 101, 111, 109, 83, 105, 122, 101, 115, 32, 111, 117, 98, 108, 105, 101, 116, 116, 101, 47, 111, 117, 98, 108, 105, 101, 116, 116, 101, 108, 97, 119, 50, 49, 46, 71, 101, 111, 109, 65, 112, 97, 114, 116, 32, 111, 117, 98, 108, 105, 101, 116, 116, 101, 47, 111, 117, 98, 108, 105, 101, 116, 116, 101, 108, 97, 119, 50, 49, 46, 71, 101, 111, 109, 80, 108, 97, 99, 101, 115, 32, 111, 117, 98, 108, 105, 101, 116, 116, 101, 47, 111, 117, 98, 108, 105, 101, 116, 116, 101, 108, 97, 119, 49, 57, 46, 68, 105, 115, 107, 84, 101, 97, 114, 115, 32, 111, 117, 98, 108, 105, 101, 116, 116, 101, 47, 111, 117, 98, 108, 105, 101, 116, 116, 101, 108, 97, 119, 49, 56, 46, 83, 101, 99, 116, 111, 114, 82, 101, 97, 100, 115, 32, 111, 117, 98, 108, 105, 101, 116, 116, 101, 47, 111, 117, 98, 108, 105, 101, 116, 116, 101, 108, 97, 119, 49, 56, 46, 83, 101, 99, 116, 111, 114, 66, 121, 116, 101, 115, 32, 111, 117, 98, 108, 105, 101, 116, 116, 101, 47, 111, 117, 98, 108, 105, 101, 116, 116, 101, 108, 97, 119, 49, 56, 46, 83, 101, 99, 116, 111, 114, 66, 97, 99, 107, 32, 111, 117, 98, 108, 105, 101, 116, 116, 101, 47, 111, 117, 98, 108, 105, 101, 116, 116, 101, 108, 97, 119, 49, 57, 46, 68, 105, 115, 107, 80, 108, 97, 121, 115, 32, 111, 117, 98, 108, 105, 101, 116, 116, 101, 47, 111, 117, 98, 108, 105, 101, 116, 116, 101, 108, 97, 119, 49, 57, 46, 68, 105, 115, 107, 75, 101, 101, 112, 115, 32, 111, 117, 98, 108, 105, 101, 116, 116, 101, 47, 111, 117, 98, 108, 105, 101, 116, 116, 101, 108, 97, 119, 50, 57, 46, 82, 111, 111, 116, 80, 117, 116, 115, 32, 111, 117, 98, 108, 105, 101, 116, 116, 101, 47, 111, 117, 98, 108, 105, 101, 116, 116, 101, 108, 97, 119, 50, 57, 46, 82, 111, 111, 116, 82, 101, 97, 100, 115, 32, 111, 117, 98, 108, 105, 101, 116, 116, 101, 47, 111, 117, 98, 108, 105, 101, 116, 116, 101, 108, 97, 119, 50, 57, 46, 82, 111, 111, 116, 67, 114, 97, 115, 104, 101, 115, 32, 111, 117, 98, 108, 105, 101, 116, 116, 101, 47, 111, 117, 98, 108, 105, 101, 116, 116, 101, 108, 97, 119, 50, 52, 46, 83, 117, 112, 101, 114, 87, 114, 105, 116, 101, 115, 32, 111, 117, 98, 108, 105, 101, 116, 116, 101, 47, 111, 117, 98, 108, 105, 101, 116, 116, 101, 108, 97, 119, 50, 53, 46, 83, 110, 97, 112, 87, 114, 105, 116, 101, 115, 32, 111, 117, 98, 108, 105, 101, 116, 116, 101, 47, 111, 117, 98, 108, 105, 101, 116, 116, 101, 108, 97, 119, 50, 53, 46, 83, 110, 97, 112, 65, 112, 97, 114, 116, 32, 111, 117, 98, 108, 105, 101, 116, 116, 101, 47, 111, 117, 98, 108, 105, 101, 116, 116, 101, 108, 97, 119, 50, 52, 46, 83, 117, 112, 101, 114, 82, 101, 97, 100, 115, 32, 111, 117, 98, 108, 105, 101, 116, 116, 101, 47, 111, 117, 98, 108, 105, 101, 116, 116, 101, 108, 97, 119, 50, 53, 46, 83, 110, 97, 112, 82, 101, 97, 100, 115, 32, 111, 117, 98, 108, 105, 101, 116, 116, 101, 47, 111, 117, 98, 108, 105, 101, 116, 116, 101, 108, 97, 119, 50, 52, 46, 83, 117, 112, 101, 114, 67, 114, 97, 115, 104, 101, 115, 32, 111, 117, 98, 108, 105, 101, 116, 116, 101, 47, 111, 117, 98, 108, 105, 101, 116, 116, 101, 108, 97, 119, 50, 51, 46, 87, 97, 108, 83, 99, 97, 110, 115, 32, 111, 117, 98, 108, 105, 101, 116, 116, 101, 47, 111, 117, 98, 108, 105, 101, 116, 116, 101, 108, 97, 119, 50, 51, 46, 87, 97, 108, 65, 112, 112, 101, 110, 100, 115, 32, 111, 117, 98, 108, 105, 101, 116, 116, 101, 47, 111, 117, 98, 108, 105, 101, 116, 116, 101, 108, 97, 119, 50, 51, 46, 87, 97, 108, 67, 114, 97, 115, 104, 101, 115]
def orderWords : List (List Nat) := [[99, 117, 116], [97, 116], [111, 117, 98, 108, 105, 101, 116, 116, 101, 47, 111, 117, 98, 108, 105, 101, 116, 116, 101, 108, 97, 119, 50, 49, 46, 71, 101, 111, 109, 83, 105, 122, 101, 115], [111, 117, 98, 108, 105, 101, 116, 116, 101, 47, 111, 117, 98, 108, 105, 101, 116, 116, 101, 108, 97, 119, 50, 49, 46, 71, 101, 111, 109, 65, 112, 97, 114, 116], [111, 117, 98, 108, 105, 101, 116, 116, 101, 47, 111, 117, 98, 108, 105, 101, 116, 116, 101, 108, 97, 119, 50, 49, 46, 71, 101, 111, 109, 80, 108, 97, 99, 101, 115], [111, 117, 98, 108, 105, 101, 116, 116, 101, 47, 111, 117, 98, 108, 105, 101, 116, 116, 101, 108, 97, 119, 49, 57, 46, 68, 105, 115, 107, 84, 101, 97, 114, 115], [111, 117, 98, 108, 105, 101, 116, 116, 101, 47, 111, 117, 98, 108, 105, 101, 116, 116, 101, 108, 97, 119, 49, 56, 46, 83, 101, 99, 116, 111, 114, 82, 101, 97, 100, 115], [111, 117, 98, 108, 105, 101, 116, 116, 101, 47, 111, 117, 98, 108, 105, 101, 116, 116, 101, 108, 97, 119, 49, 56, 46, 83, 101, 99, 116, 111, 114, 66, 121, 116, 101, 115], [111, 117, 98, 108, 105, 101, 116, 116, 101, 47, 111, 117, 98, 108, 105, 101, 116, 116, 101, 108, 97, 119, 49, 56, 46, 83, 101, 99, 116, 111, 114, 66, 97, 99, 107], [111, 117, 98, 108, 105, 101, 116, 116, 101, 47, 111, 117, 98, 108, 105, 101, 116, 116, 101, 108, 97, 119, 49, 57, 46, 68, 105, 115, 107, 80, 108, 97, 121, 115], [111, 117, 98, 108, 105, 101, 116, 116, 101, 47, 111, 117, 98, 108, 105, 101, 116, 116, 101, 108, 97, 119, 49, 57, 46, 68, 105, 115, 107, 75, 101, 101, 112, 115], [111, 117, 98, 108, 105, 101, 116, 116, 101, 47, 111, 117, 98, 108, 105, 101, 116, 116, 101, 108, 97, 119, 50, 57, 46, 82, 111, 111, 116, 80, 117, 116, 115], [111, 117, 98, 108, 105, 101, 116, 116, 101, 47, 111, 117, 98, 108, 105, 101, 116, 116, 101, 108, 97, 119, 50, 57, 46, 82, 111, 111, 116, 82, 101, 97, 100, 115], [111, 117, 98, 108, 105, 101, 116, 116, 101, 47, 111, 117, 98, 108, 105, 101, 116, 116, 101, 108, 97, 119, 50, 57, 46, 82, 111, 111, 116, 67, 114, 97, 115, 104, 101, 115], [111, 117, 98, 108, 105, 101, 116, 116, 101, 47, 111, 117, 98, 108, 105, 101, 116, 116, 101, 108, 97, 119, 50, 52, 46, 83, 117, 112, 101, 114, 87, 114, 105, 116, 101, 115], [111, 117, 98, 108, 105, 101, 116, 116, 101, 47, 111, 117, 98, 108, 105, 101, 116, 116, 101, 108, 97, 119, 50, 53, 46, 83, 110, 97, 112, 87, 114, 105, 116, 101, 115], [111, 117, 98, 108, 105, 101, 116, 116, 101, 47, 111, 117, 98, 108, 105, 101, 116, 116, 101, 108, 97, 119, 50, 53, 46, 83, 110, 97, 112, 65, 112, 97, 114, 116], [111, 117, 98, 108, 105, 101, 116, 116, 101, 47, 111, 117, 98, 108, 105, 101, 116, 116, 101, 108, 97, 119, 50, 52, 46, 83, 117, 112, 101, 114, 82, 101, 97, 100, 115], [111, 117, 98, 108, 105, 101, 116, 116, 101, 47, 111, 117, 98, 108, 105, 101, 116, 116, 101, 108, 97, 119, 50, 53, 46, 83, 110, 97, 112, 82, 101, 97, 100, 115], [111, 117, 98, 108, 105, 101, 116, 116, 101, 47, 111, 117, 98, 108, 105, 101, 116, 116, 101, 108, 97, 119, 50, 52, 46, 83, 117, 112, 101, 114, 67, 114, 97, 115, 104, 101, 115], [111, 117, 98, 108, 105, 101, 116, 116, 101, 47, 111, 117, 98, 108, 105, 101, 116, 116, 101, 108, 97, 119, 50, 51, 46, 87, 97, 108, 83, 99, 97, 110, 115], [111, 117, 98, 108, 105, 101, 116, 116, 101, 47, 111, 117, 98, 108, 105, 101, 116, 116, 101, 108, 97, 119, 50, 51, 46, 87, 97, 108, 65, 112, 112, 101, 110, 100, 115], [111, 117, 98, 108, 105, 101, 116, 116, 101, 47, 111, 117, 98, 108, 105, 101, 116, 116, 101, 108, 97, 119, 50, 51, 46, 87, 97, 108, 67, 114, 97, 115, 104, 101, 115]]
theorem order_text : Try.prog.initOrder = String.ofList (orderCodes.map Char.ofNat) := by kernel_rfl
theorem order_chars : Try.prog.initOrder.toList = orderCodes.map Char.ofNat := by rw [order_text]; exact String.toList_ofList
theorem order_words : behindMainWord (wordsSigns Try.prog.initOrder.toList) = orderWords.map (List.map Char.ofNat) := by
  rw [order_chars]
  kernel_rfl
theorem order_strip : stripLifts liftWords (orderWords.map (List.map Char.ofNat)) = ([], orderWords.map (List.map Char.ofNat)) := by kernel_rfl
theorem order_cons : ∃ c rest, orderWords.map (List.map Char.ofNat) = c :: rest ∧ c = "cut".toList := ⟨_, _, rfl, by kernel_rfl⟩

theorem lifts_of {P : Program} {ws : List (List Char)} (h : behindMainWord (wordsSigns P.initOrder.toList) = ws) (hs : stripLifts liftWords ws = ([], ws)) : P.headLifts = [] := by
  unfold Program.headLifts
  rw [h, hs]
  dsimp only
  split <;> rfl
theorem make_of {P : Program} {ws : List (List Char)} (h : behindMainWord (wordsSigns P.initOrder.toList) = ws) (hc : ∃ c rest, ws = c :: rest ∧ c = "cut".toList) : P.make = some .cut := by
  obtain ⟨c, rest, rfl, rfl⟩ := hc
  unfold Program.make
  rw [h]
  dsimp only
  rw [if_neg (by decide), if_pos (by simp)]
theorem final_of {P : Program} {ws : List (List Char)} (h : behindMainWord (wordsSigns P.initOrder.toList) = ws) (hs : stripLifts liftWords ws = ([], ws)) (hc : ∃ c rest, ws = c :: rest ∧ c = "cut".toList) : P.liftsFinal = false := by
  obtain ⟨c, rest, rfl, rfl⟩ := hc
  unfold Program.liftsFinal
  rw [lifts_of h hs, h]
  simp
theorem enter_of {P : Program} {ws : List (List Char)} (h : behindMainWord (wordsSigns P.initOrder.toList) = ws) (hs : stripLifts liftWords ws = ([], ws)) (hc : ∃ c rest, ws = c :: rest ∧ c = "cut".toList)
    (hl : P.laysLater = false) (hr : P.bearsReflect = false) (hd : P.doorRows = []) : P.mayEnter = true := by
  obtain ⟨c, rest, rfl, rfl⟩ := hc
  unfold Program.mayEnter
  rw [h]
  dsimp only
  rw [hs]
  simp [hl, hr, Program.doorFits, hd]
theorem lays_fact : Try.prog.laysLater = false := by kernel_rfl
theorem refl_fact : Try.prog.bearsReflect = false := by kernel_rfl
theorem door_fact : Try.prog.doorRows = [] := by kernel_rfl
theorem enter_fact : Try.prog.mayEnter = true := enter_of order_words order_strip order_cons lays_fact refl_fact door_fact
theorem final_fact : Try.prog.liftsFinal = false := final_of order_words order_strip order_cons
theorem make_fact : Try.prog.make = some .cut := make_of order_words order_cons
theorem own_fact : ownKnob Try.prog.godebug = none := by kernel_rfl
theorem laid_fact : laidOutB Try.prog = true := by kernel_rfl
theorem maps_fact : mapsRowed Try.prog = true := by kernel_rfl
theorem heard_fact : Try.prog.stopsHeard = true := by kernel_rfl
theorem keys_fact : Try.prog.plainKeys = false := by kernel_rfl
theorem stops_fact : Try.prog.stops = [] := by kernel_rfl
theorem knobs_fact : Try.prog.stopKnobs = [] := by kernel_rfl
end Go.Proofs.Ytdjndeleafhglaa
namespace Go.Proofs.Ytdjndeleafhglaa
open Go.RowKit Go.ChangeShapes Go.WideShapes Go.ChangeAt

theorem ofInts (zs : List Int) (h : ∀ n ∈ zs, 0 ≤ n ∧ n ≤ 255) : ∃ l : List UInt8, l.length = zs.length ∧ ∀ i : Nat, i < zs.length → ∃ b, l[i]? = some b ∧ (b.toNat : Int) = zs.getD i 0 := by
  refine ⟨zs.map fun n => UInt8.ofNat n.toNat, by simp, fun i hi => ⟨UInt8.ofNat (zs[i]).toNat, by simp [hi], ?_⟩⟩
  have := h zs[i] (List.getElem_mem hi)
  rw [UInt8.toNat_ofNat_of_lt' (by simp only [UInt8.size]; omega)]
  simp [List.getD, hi]
  omega

theorem opened_bytes {H : Type} {enc : TypeId × Value → H} {P : Program} {W : World} {t e : TypeId} {fuel : Nat} {cs : List Value} {x : DataW H × List MemPlace} (ht : P.underlying t = some (.slice e)) (he : P.underlying e = some (.int .u8)) (hc : P.cellsOf e = 1)
    (h : DataW.trod enc P W 0 (fun _ => true) true fuel t cs = some x) :
    ∃ (A : Option Addr) (n c : Nat) (l : List UInt8), cs = [.slice A n c] ∧ BytesAt W A n l ∧ n ≤ c ∧ n ≤ maxLen := by
  rcases open_ints ht he hc h with ⟨hcs, _⟩ | ⟨a, len, cap, zs, hcs, _, hl, hm, hz, _, hcell, hwf⟩
  · exact ⟨none, 0, 0, [], hcs, BytesAt.nil _, Nat.le_refl _, Nat.zero_le _⟩
  · simp only [if_true] at hz
    obtain ⟨l, hll, hlg⟩ := ofInts zs (fun n hn => bounds_u8 (hwf n hn))
    refine ⟨some a, len, cap, l.take len, hcs, ⟨by rw [List.length_take]; omega, fun hn => ?_⟩, hl, Nat.le_trans hl hm⟩
    obtain ⟨ab, ao, spot⟩ := a
    have hspot : spot = none := by simpa [Addr.add] using World.cell?_spot (hcell 0 (by omega))
    subst hspot
    refine ⟨ab, ao, rfl, fun j u hu => ?_⟩
    have hj : j < len := by have := (List.getElem?_eq_some_iff.1 hu).1; rw [bytesV_length, List.length_take] at this; omega
    obtain ⟨b, hb, hbz⟩ := hlg j (by omega)
    have hcj := hcell j (by omega)
    rw [Addr.add_mid] at hcj
    rw [hcj, ← hbz]
    simp only [bytesV, List.getElem?_map, List.getElem?_take, if_pos hj, hb, Option.map_some, Option.some.injEq] at hu
    rw [← hu]

theorem array5 {α : Type} {cs : Array α} (h : cs.size = 5) : ∃ c0 c1 c2 c3 c4, cs = #[c0, c1, c2, c3, c4] := by
  obtain ⟨l⟩ := cs
  match l, h with
  | [c0, c1, c2, c3, c4], _ => exact ⟨c0, c1, c2, c3, c4, rfl⟩
theorem list5 {α : Type} {cs : List α} (h : cs.length = 5) : ∃ c0 c1 c2 c3 c4, cs = [c0, c1, c2, c3, c4] := by
  match cs, h with
  | [c0, c1, c2, c3, c4], _ => exact ⟨c0, c1, c2, c3, c4, rfl⟩

theorem sec_cells : Try.prog.cellsOf 60 = 5 := by kernel_rfl
theorem sec_fields : ∃ f0 f1 f2 f3 f4 : Field, Try.prog.underlying 60 = some (.struct #[f0, f1, f2, f3, f4]) ∧ f0.type = 3 ∧ f1.type = 28 ∧ f2.type = 3 ∧ f3.type = 28 ∧ f4.type = 41 ∧
    f0.offset = 0 ∧ f1.offset = 1 ∧ f2.offset = 2 ∧ f3.offset = 3 ∧ f4.offset = 4 :=
  ⟨_, _, _, _, _, Try.underlying60, rfl, rfl, rfl, rfl, rfl, rfl, rfl, rfl, rfl, rfl⟩
theorem cells_int : Try.prog.cellsOf 3 = 1 := by kernel_rfl
theorem cells_u64 : Try.prog.cellsOf 28 = 1 := by kernel_rfl
theorem cells_u8 : Try.prog.cellsOf 5 = 1 := by kernel_rfl
theorem cells_bytes : Try.prog.cellsOf 41 = 1 := by kernel_rfl

/-- A sector's cells that came in. -/
theorem opened_sec {H : Type} {enc : TypeId × Value → H} {W : World} {fuel : Nat} {cs : List Value} {x : DataW H × List MemPlace} (h : DataW.trod enc Try.prog W 0 (fun _ => true) true fuel 60 cs = some x) :
    ∃ (s : Sec) (A : Option Addr) (c : Nat), cs = [.int .i64 s.kind, .int .u64 (s.life : Int), .int .i64 s.seq, .int .u64 (s.gen : Int), .slice A s.body.length c] ∧ SecIn W s A c := by
  obtain ⟨f0, f1, f2, f3, f4, hs, t0, t1, t2, t3, t4, o0, o1, o2, o3, o4⟩ := sec_fields
  obtain ⟨xs, n, _, rfl, hl, hlen, hf⟩ := DataW.trod_struct hs h
  rw [sec_cells] at hl
  obtain ⟨c0, c1, c2, c3, c4, rfl⟩ := list5 hl
  have h0 := hf 0 f0 rfl
  have h1 := hf 1 f1 rfl
  have h2 := hf 2 f2 rfl
  have h3 := hf 3 f3 rfl
  have h4 := hf 4 f4 rfl
  rw [t0, o0, cells_int] at h0
  rw [t1, o1, cells_u64] at h1
  rw [t2, o2, cells_int] at h2
  rw [t3, o3, cells_u64] at h3
  rw [t4, o4, cells_bytes] at h4
  have hx : ∀ i, i < 5 → ∃ y, xs[i]? = some y := fun i hi => ⟨_, List.getElem?_eq_getElem (by rw [hlen]; exact hi)⟩
  obtain ⟨y0, e0⟩ := hx 0 (by decide)
  obtain ⟨y1, e1⟩ := hx 1 (by decide)
  obtain ⟨y2, e2⟩ := hx 2 (by decide)
  obtain ⟨y3, e3⟩ := hx 3 (by decide)
  obtain ⟨y4, e4⟩ := hx 4 (by decide)
  rw [e0] at h0; rw [e1] at h1; rw [e2] at h2; rw [e3] at h3; rw [e4] at h4
  obtain ⟨n0, g0, _, _⟩ := DataW.trod_int Try.underlying3 h0
  obtain ⟨n1, g1, _, w1⟩ := DataW.trod_int Try.underlying28 h1
  obtain ⟨n2, g2, _, _⟩ := DataW.trod_int Try.underlying3 h2
  obtain ⟨n3, g3, _, w3⟩ := DataW.trod_int Try.underlying28 h3
  obtain ⟨A, m, c, l, g4, hb, hc, hbig⟩ := opened_bytes Try.underlying41 Try.underlying5 cells_u8 h4
  obtain rfl : c0 = .int .i64 n0 := by simpa using g0
  obtain rfl : c1 = .int .u64 n1 := by simpa using g1
  obtain rfl : c2 = .int .i64 n2 := by simpa using g2
  obtain rfl : c3 = .int .u64 n3 := by simpa using g3
  obtain rfl : c4 = .slice A m c := by simpa using g4
  have b1 := bounds_u64 w1
  have b3 := bounds_u64 w3
  have hl := hb.len
  subst hl
  refine ⟨⟨n0, n1.toNat, n2, n3.toNat, l⟩, A, c, ?_, hb, hc, by simp only; omega, by simp only; omega, hbig⟩
  simp only [List.cons.injEq, Value.int.injEq, true_and, and_true]
  omega
set_option maxRecDepth 100000 in
theorem opened_secV {H : Type} {enc : TypeId × Value → H} {W : World} {base : Nat} {v : Value} {d : DataW H} {p : List MemPlace} (hval : Value.okWide Try.prog W .any base 60 v) (h : DataW.Trod enc Try.prog W 0 (fun _ => true) true 60 v d p) :
    ∃ (s : Sec) (A : Option Addr) (c : Nat), v = secV s A c ∧ SecIn W s A c := by
  obtain ⟨f0, f1, f2, f3, f4, hs, _⟩ := sec_fields
  obtain ⟨cs, rfl, _⟩ := okWide_struct hs hval
  obtain ⟨fuel, hf⟩ := h
  obtain ⟨s, A, c, hcs, hin⟩ := opened_sec hf
  refine ⟨s, A, c, ?_, hin⟩
  have : cs.toList = _ := hcs
  unfold secV
  congr 1
  exact Array.toList_inj.1 this
set_option maxRecDepth 100000 in
theorem opened_bytesV {H : Type} {enc : TypeId × Value → H} {W : World} {base : Nat} {v : Value} {d : DataW H} {p : List MemPlace} (hval : Value.okWide Try.prog W .any base 41 v) (h : DataW.Trod enc Try.prog W 0 (fun _ => true) true 41 v d p) :
    ∃ (A : Option Addr) (n c : Nat) (l : List UInt8), v = .slice A n c ∧ BytesAt W A n l ∧ n ≤ c := by
  obtain ⟨a1, len, cap, rfl⟩ := okWide_slice Try.underlying41 hval
  obtain ⟨fuel, hf⟩ := h
  obtain ⟨A, n, c, l, hcs, hb, hc, _⟩ := opened_bytes Try.underlying41 Try.underlying5 cells_u8 hf
  refine ⟨A, n, c, l, ?_, hb, hc⟩
  simpa [Value.cells] using hcs

end Go.Proofs.Ytdjndeleafhglaa
namespace Go.Proofs.Ytdjndeleafhglaa

theorem encK_take (K : SU) (p : Int) (x : Sec) : (encK K p x).1.take 504 = textS p x := by
  unfold encK
  exact List.take_left' (textS_length p x)
theorem encK_drop (K : SU) (p : Int) (x : Sec) : (encK K p x).1.drop 504 = (sumK K (textS p x)).1 := by
  unfold encK
  exact List.drop_left' (textS_length p x)
theorem checkK_sum (K : SU) (t : List UInt8) : checkK (sumK K t).2 t (sumK K t).1 = true := by
  cases K with
  | none => simp [checkK, sumK]
  | some U =>
    simp only [sumK, checkK]
    unfold checkU
    rw [sumU_idx]
    simp [sumU_mem]
/-- What is written is read. -/
theorem decK_enc {K : SU} {p : Int} {x : Sec} (h : rightS p x = 0) (hl : x.life < 18446744073709551616) (hg : x.gen < 18446744073709551616) : decK (encK K p x).2 p (encK K p x).1 = (0, x) := by
  unfold decK
  rw [if_neg (by rw [encK_length]; simp), if_neg (show ¬ (encK K p x).1 = blankS from textS_head p x h _), encK_take, encK_drop, ofS_textS h hl hg]
  have := checkK_sum K (textS p x)
  simp only [encK, this, if_true]
/-- .. at its place alone. -/
theorem decK_other {K K' : SU} {p q : Int} {x : Sec} (h : rightS p x = 0) (hpq : q ≠ p) : decK K' q (encK K p x).1 = (11, secZero) := by
  unfold decK
  rw [if_neg (by rw [encK_length]; simp), if_neg (show ¬ (encK K p x).1 = blankS from textS_head p x h _), encK_take, ofS_other h hpq]
/-- Where one thing alone was summed, it alone is read. -/
theorem decK_alone {p : Int} {x : Sec} {b : List UInt8} (hb : b ≠ (encK (some []) p x).1) : (decK (encK (some []) p x).2 p b).1 ≠ 0 := by
  have e2 : (encK (some []) p x).2 = some [textS p x] := by simp [encK, sumK, sumU]
  rw [e2, decK_some]
  intro h0
  rcases decU_cases [textS p x] p b with ⟨y, hy⟩ | ⟨h, _⟩
  · obtain ⟨h1, h2, h3, h4, h5, h6⟩ := decU_ok hy
    have h7 : textS p y = textS p x := by simpa using h5
    apply hb
    have := decU_bytes hy
    rw [this, h7]
    simp [encK, sumK, sumU]
  · exact h h0
theorem decK_alone2 {p : Int} {x : Sec} {b : List UInt8} (hb : b ≠ (encK (some []) p x).1) : ∃ rf, decK (encK (some []) p x).2 p b = (rf, secZero) ∧ rf ≠ 0 := by
  have h0 := decK_alone hb
  have e2 : (encK (some []) p x).2 = some [textS p x] := by simp [encK, sumK, sumU]
  rw [e2, decK_some] at h0 ⊢
  rcases decU_cases [textS p x] p b with ⟨y, hy⟩ | ⟨h, h'⟩
  · rw [hy] at h0; exact absurd rfl h0
  · exact ⟨_, Prod.ext rfl h', h⟩

end Go.Proofs.Ytdjndeleafhglaa
namespace Go.Proofs.Ytdjndeleafhglaa
open Go.RowKit

/-- The worlds in which nothing but what T names has turned. -/
abbrev FrameW (T : Nat → Prop) (W : World) : World → Prop := Frame T W
theorem inF_more {T : Nat → Prop} {W w0 : World} (h : FrameW T W w0) : ∃ x : InS (FrameW T W), w0 = x.w := ⟨⟨w0, h⟩, rfl⟩
theorem Frame.heap {T : Nat → Prop} {W W' : World} (h : Frame T W W') {X : Nat} {o : Obj} (hX : W.heap[X]? = some o) (hT : ¬ T X) : W'.heap[X]? = some o :=
  (h.block X (Array.getElem?_eq_some_iff.1 hX).1 hT).trans hX
theorem Frame.then {T : Nat → Prop} {W a b : World} (h : Frame T W a) (hb : Below a.heap.size a b) : Frame T W b := h.trans (Frame.of_below (S := T) hb) (fun _ hj => .inl hj)
theorem frame_cells {T : Nat → Prop} {W : World} {X : Nat} {a b c d e : Value} {t : TypeId} (h : W.heap[X]? = some (.cells #[a, b, c, d, e] t (0, 0))) (hT : ¬ T X) :
    ∀ x : InS (FrameW T W), x.w.cell? ⟨X, 0, none⟩ = some a ∧ x.w.cell? ⟨X, 1, none⟩ = some b ∧ x.w.cell? ⟨X, 2, none⟩ = some c ∧ x.w.cell? ⟨X, 3, none⟩ = some d ∧ x.w.cell? ⟨X, 4, none⟩ = some e := fun x => by
  obtain ⟨h0, h1, h2, h3, h4, _⟩ := cells5 (x.h.heap h hT)
  exact ⟨h0, h1, h2, h3, h4⟩
theorem cells2 {w : World} {x : Nat} {a b : Value} {t : TypeId} (h : w.heap[x]? = some (.cells #[a, b] t (0, 0))) : w.cell? ⟨x, 0, none⟩ = some a ∧ w.cell? ⟨x, 1, none⟩ = some b ∧ ∀ i, w.frozen? ⟨x, i, none⟩ = false := by
  refine ⟨?_, ?_, fun i => ?_⟩
  all_goals first
    | (rw [cell_of_row _ _ _ _ _ _ h]; rfl)
    | (simp [World.frozen?, h])
theorem SecIn.frame {T : Nat → Prop} {w w' : World} {x : Sec} {A : Option Addr} {c : Nat} (h : SecIn w x A c) (hf : Frame T w w') (hT : 0 < x.body.length → ∀ g o, A = some ⟨g, o, none⟩ → ¬ T g) : SecIn w' x A c :=
  ⟨⟨h.at_.len, fun hn => by
    obtain ⟨g, o, hA, hr⟩ := h.at_.at_ hn
    exact ⟨g, o, hA, rangeAt_keep hr (hf.block g (rangeAt_lt hr (by rw [bytesV_length]; exact hn)) (hT hn g o hA))⟩⟩, h.cap, h.life, h.gen, h.big⟩
theorem BytesAt.frame {T : Nat → Prop} {w w' : World} {A : Option Addr} {n : Nat} {l : List UInt8} (h : BytesAt w A n l) (hf : Frame T w w') (hT : 0 < n → ∀ g o, A = some ⟨g, o, none⟩ → ¬ T g) : BytesAt w' A n l :=
  ⟨h.len, fun hn => by
    obtain ⟨g, o, hA, hr⟩ := h.at_ hn
    exact ⟨g, o, hA, rangeAt_keep hr (hf.block g (rangeAt_lt hr (by rw [bytesV_length, h.len]; exact hn)) (hT hn g o hA))⟩⟩
theorem BytesAt.lt {w : World} {g o n : Nat} {l : List UInt8} (h : BytesAt w (some ⟨g, o, none⟩) n l) (hn : 0 < n) : g < w.heap.size := by
  obtain ⟨g', o', he, hr⟩ := h.at_ hn
  cases he
  exact rangeAt_lt hr (by rw [bytesV_length, h.len]; exact hn)

open Go.Proofs.YtdjndeleafhglaaW.PrintWords Go.Proofs.YtdjndeleafhglaaW.PrintLast Go.Proofs.YtdjndeleafhglaaW.PrintMore in
theorem C_bytes2 {w : World} {A : Option Addr} {n : Nat} {l : List UInt8} (h : BytesAt w A n l) (hn : n ≤ maxLen) : Kd.C (Kd.int .u8) w A (ints l).length (ints l) := by
  refine Kd.C_of_reads (d := 0) ⟨rfl, by rw [ints_length, h.len]; exact hn, fun hp => ?_⟩
  rw [ints_length, h.len] at hp
  obtain ⟨g, o, rfl, hr⟩ := h.at_ hp
  refine ⟨_, rfl, fun j hj => ?_⟩
  rw [ints_length] at hj
  rw [Addr.add_mid]
  have := hr j (.int .u8 (l[j].toNat : Int)) (by simp [bytesV, hj])
  rw [this]
  simp [ints, hj]
theorem RRight_in (p : Int) (x : Sec) (A : Option Addr) (c : Nat) (w : World) (h : SecIn w x A c) :
    Calls Try.prog 68 #[.int .i64 p, secV x A c] w fun e w' => e = .returned (.int .i64 (rightS p x)) ∧ Below w.heap.size w w' := by
  have h := PSectorReads.oublietteref18_Right.calls 1 p x.kind (x.life : Int) x.seq (x.gen : Int) A c (ints x.body) (rightS p x) w (C_bytes2 h.at_ h.big) (by rw [ints_length]; exact h.cap) (right_f p x 1 (by decide))
  rw [ints_length] at h
  exact h

set_option maxRecDepth 100000 in
set_option maxHeartbeats 4000000 in
theorem SectorBack_out (p q : Int) (x : Sec) (A B : Option Addr) (c n d : Nat) (w : World) (hx : SecIn w x A c) (h : rightS p x ≠ 0 ∨ n ≠ 512) :
    Calls Try.prog 9 #[.int .i64 p, .int .i64 q, secV x A c, .slice B n d] w fun e w' => e = .returned (.bool true) ∧ Below w.heap.size w w' := by
  have hR := fun W (hW : Below w.heap.size w W) => RRight_in p x A c W (hx.below hW)
  have hB0 : Below w.heap.size w (w.alloc (.cells #[.int .i64 x.kind, .int .u64 (x.life : Int), .int .i64 x.seq, .int .u64 (x.gen : Int), .slice A x.body.length c] 60)) := Bbox _ _
  unfold secV at hR ⊢
  have HR := Lib.hid hR; clear hR
  have HB0 := Lib.hid hB0; clear hB0
  by_cases hr : rightS p x = 0
  · have hn : n ≠ 512 := by rcases h with h | h <;> first | exact absurd hr h | exact h
    have hn' : ((n : Int) != 512) = true := by simp; omega
    have Hr := Lib.hid hr; clear hr h
    go_enter Try.func9, Try.ntmps9
    go_wp2_with fail
    refine (HR.out _ HB0.out).mono ?_; rintro e w1 ⟨rfl, hb1⟩
    rw [Hr.out]
    go_wp2_with fail
    refine (alive18_any _).mono ?_; rintro e w2 ⟨rfl, hb2⟩
    go_wp2_with fail
    go_ret
    exact ⟨rfl, Bthen (Bthen HB0.out hb1) hb2⟩
  · have hrb : (rightS p x != 0) = true := by simpa using hr
    generalize rightS p x = r at HR hr hrb
    clear h
    go_enter Try.func9, Try.ntmps9
    go_wp2_with fail
    refine (HR.out _ HB0.out).mono ?_; rintro e w1 ⟨rfl, hb1⟩
    go_wp2_with fail
    refine (alive18_any _).mono ?_; rintro e w2 ⟨rfl, hb2⟩
    go_wp2_with fail
    go_ret
    exact ⟨rfl, Bthen (Bthen HB0.out hb1) hb2⟩

end Go.Proofs.Ytdjndeleafhglaa
namespace Go.Proofs.Ytdjndeleafhglaa
open Go.RowKit

set_option maxRecDepth 100000 in
set_option maxHeartbeats 8000000 in
theorem SectorBack_same (p q : Int) (x : Sec) (A : Option Addr) (c gb ob d : Nat) (lb : List UInt8) (w : World) (hx : SecIn w x A c) (hA : 0 < x.body.length → ∀ g o, A = some ⟨g, o, none⟩ → g < w.heap.size) (hlb : BytesAt w (some ⟨gb, ob, none⟩) 512 lb) (hd : 512 ≤ d) (hri : rightS p x = 0) (hq : p = q) :
    Calls Try.prog 9 #[.int .i64 p, .int .i64 q, secV x A c, .slice (some ⟨gb, ob, none⟩) 512 d] w fun e w' => e = .returned (.bool true) ∧ Below w.heap.size w w' := by
  have hxl : x.body.length ≤ 479 := (rightS_ok.1 hri).2.2.2.2.2.2
  have hgb := hlb.lt (by decide)
  have Hdec0 : Hid (decK (encK none p x).2 p (encK none p x).1 = (0, x)) := Lib.hid (decK_enc hri hx.life hx.gen)
  have Hdec1 : Hid (decK (encK (some []) p x).2 p (encK (some []) p x).1 = (0, x)) := Lib.hid (decK_enc hri hx.life hx.gen)
  subst hq
  have Hdeq0 := Hdec0
  have Hdeq1 := Hdec1
  have hR := fun W (hW : Below w.heap.size w W) => RRight_in p x A c W (hx.below hW)
  have hB0 : Below w.heap.size w (w.alloc (.cells #[.int .i64 x.kind, .int .u64 (x.life : Int), .int .i64 x.seq, .int .u64 (x.gen : Int), .slice A x.body.length c] 60)) := Bbox _ _
  have hX := heap_alloc_new w (.cells #[.int .i64 x.kind, .int .u64 (x.life : Int), .int .i64 x.seq, .int .u64 (x.gen : Int), .slice A x.body.length c] 60)
  unfold secV at hR ⊢
  have HR := Lib.hid hR; clear hR
  have Hri := Lib.hid hri; clear hri
  have Hlb := Lib.hid hlb; clear hlb
  have Hx := Lib.hid hX; clear hX
  have HB0 := Lib.hid hB0; clear hB0
  go_enter Try.func9, Try.ntmps9
  go_wp2_with fail
  have hB0 := HB0.out
  have hX := Hx.out
  clear HB0 Hx
  generalize w.alloc (.cells #[.int .i64 x.kind, .int .u64 (x.life : Int), .int .i64 x.seq, .int .u64 (x.gen : Int), .slice A x.body.length c] 60) = W0 at hB0 hX ⊢
  refine (HR.out W0 hB0).mono ?_; rintro e b1 ⟨rfl, hb1⟩
  rw [Hri.out]
  have hXb1 := (hb1.block _ (blk_lt hX)).trans hX
  have hB1 := Bthen hB0 hb1
  have hxlt := blk_lt hXb1
  go_wp2_with fail
  refine (Real_any b1).mono ?_; rintro e b2 ⟨u0, T0, rfl, hU0, hT0l, hb2⟩
  go_wp2_with fail
  refine (Symbolic_any b2).mono ?_; rintro e b3 ⟨u1, T1, rfl, hU1, hT1l, hb3⟩
  go_wp2_with fail
  have hs1 := hB1.size
  have hs2 := hb2.size
  have hs3 := hb3.size
  have hb13 := Bthen hb2 hb3
  have hn0 := heap_alloc_new b3 (.cells #[.pointer (some ⟨u0, 0, none⟩), .pointer (some ⟨u1, 0, none⟩)] 57)
  have hs0 : Below b3.heap.size b3 (b3.alloc (.cells #[.pointer (some ⟨u0, 0, none⟩), .pointer (some ⟨u1, 0, none⟩)] 57)) := Bbox _ _
  have hBb : ∃ Bb, Bb = b3.heap.size := ⟨_, rfl⟩
  obtain ⟨Bb, hBb⟩ := hBb
  rw [← hBb] at hn0 ⊢
  generalize b3.alloc (.cells #[.pointer (some ⟨u0, 0, none⟩), .pointer (some ⟨u1, 0, none⟩)] 57) = Z0 at hn0 hs0 ⊢
  have hBo0 := hn0
  have hX0 := ((Bthen hb13 hs0).block _ (blk_lt hXb1)).trans hXb1
  have hBw0 := Bthen (Bthen hB1 hb13) hs0
  have hx0 := hx.below hBw0
  have hlb0 := Hlb.out.below hBw0
  have hU0' := (hU0.below hb3).below hs0
  have hU1' := hU1.below hs0
  have hT0u := hU0.2.2
  have hT1u := hU1.2.2
  have hT0w : ∀ k, T0 k → w.heap.size ≤ k := fun k hk => by have := hT0l k hk; omega
  have hT1w : ∀ k, T1 k → w.heap.size ≤ k := fun k hk => by have := hT1l k hk; omega
  have hT01 : ∀ k, T0 k → ¬ T1 k := fun k h0 h1 => by have := hT0u k h0; have := hT1l k h1; omega
  have hTB0 : ¬ T0 Bb := fun h0 => by have := hT0u _ h0; omega
  have hTB1a : ¬ T1 Bb := fun h0 => by have := hT1u _ h0; omega
  have hTX0 : ¬ T0 w.heap.size := fun h0 => by have := hT0l _ h0; omega
  have hTX1 : ¬ T1 w.heap.size := fun h0 => by have := hT1l _ h0; omega
  have hTA0 : 0 < x.body.length → ∀ g o, A = some ⟨g, o, none⟩ → ¬ T0 g := fun hp g o he h0 => by have := hT0l _ h0; have := hA hp g o he; omega
  have hTA1 : 0 < x.body.length → ∀ g o, A = some ⟨g, o, none⟩ → ¬ T1 g := fun hp g o he h0 => by have := hT1l _ h0; have := hA hp g o he; omega
  clear hU0 hU1 hX hXb1 hn0
  have hU0 := hU0'
  have hU1 := hU1'
  clear hU0' hU1' hBb
  refine wp_loop_rounds 3 ?_
  rw [rounds_succ]
  obtain ⟨bo0, bo1, bof⟩ := cells2 hBo0
  have hb0 : ∀ y : InS (FrameW T0 Z0), y.w.cell? ⟨Bb, 0, none⟩ = some (.pointer (some ⟨u0, 0, none⟩)) := fun y => by
    obtain ⟨q0, q1, _⟩ := cells2 (y.h.heap hBo0 hTB0)
    exact q0
  have xc := frame_cells hX0 hTX0
  have xc0 := fun y => (xc y).1
  have xc1 := fun y => (xc y).2.1
  have xc2 := fun y => (xc y).2.2.1
  have xc3 := fun y => (xc y).2.2.2.1
  have xc4 := fun y => (xc y).2.2.2.2
  clear xc
  go_wp2_with fail
  refine wp_region_in (FrameW T0 Z0) [(0, true), (1, true), (2, true), (3, true), (4, true), (5, true), (6, false), (7, false), (8, true), (9, true), (10, true), (11, true), (12, true)] (by kernel_rfl) (by kernel_rfl) (fun _ _ _ _ _ h => h) (Frame.drew (Frame.refl _ _)) (fun hne => ?_)
  simp only [permOps, List.map_cons, List.map_nil, List.getD_cons_zero, List.getD_cons_succ]
  (repeat ((with_reducible refine wpPerm_F ?_); intro K hK; go_simp; refine hK _ _ ?_; clear hK K))
  (with_reducible refine wpPerm_E rfl ?_); intro K hK
  go_wp2_with fail
  refine (of_any x A c _).mono ?_; rintro e a1 ⟨rfl, hba1⟩
  have hA1 : Below Z0.heap.size Z0 a1 := Bthen (Bdrew (Bnil _)) hba1
  (refine hK _ _ ?_; clear hK K)
  refine ⟨inF_more (Frame.of_below hA1), ?_⟩
  (with_reducible refine wpPerm_E rfl ?_); intro K hK
  go_wp2_with fail
  refine (Encode_all p x A c (hU0.below hA1) Hri.out (hx0.below hA1).at_ (by decide)).mono ?_; rintro e a2 ⟨A3, c3, rfl, hown3, hE3, hf3⟩
  have hFa : Frame T0 Z0 a2 := (Frame.of_below (S := T0) hA1).trans hf3 (fun _ hj => .inl hj)
  have hcap3 := own_cap hown3
  have hB3 := BytesAt.own hown3
  have hg3 := fun k hk => (hown3.lt k hk).1
  (refine hK _ _ ?_; clear hK K)
  refine ⟨inF_more hFa, ?_⟩
  (repeat ((with_reducible refine wpPerm_F ?_); intro K hK; go_simp; refine hK _ _ ?_; clear hK K))
  refine wpPerm_nil ?_
  obtain ⟨g3, o3, rfl, _⟩ := hB3.at_ (by decide)
  have hXa := hFa.heap hX0 hTX0
  have hBoa := hFa.heap hBo0 hTB0
  have hxa := hx0.frame hFa hTA0
  have HB3 := Lib.hid hB3
  clear hb0 xc0 xc1 xc2 xc3 xc4 bo0 bo1 bof hB3 hown3
  obtain ⟨bo0, bo1, bof⟩ := cells2 hBoa
  go_wp2_with fail
  refine (Decode_any p g3 o3 c3 _ hE3 HB3.out hcap3).mono ?_
  rintro e a3 hp3
  rw [Hdec0.out] at hp3
  obtain ⟨A4, c4, rfl, hown4, hb4⟩ := hp3
  have hcap4 := own_cap hown4
  have hB4 := BytesAt.own hown4
  simp only at hcap4 hB4
  have HB4 := Lib.hid hB4
  clear hown4 hB4 bo0 bo1 bof
  unfold secV
  go_wp2_with fail
  have hn4 := heap_alloc_new a3 (.cells #[.int .i64 x.kind, .int .u64 (x.life : Int), .int .i64 x.seq, .int .u64 (x.gen : Int), .slice A4 x.body.length c4] 54)
  have hs4 : Below a3.heap.size a3 (a3.alloc (.cells #[.int .i64 x.kind, .int .u64 (x.life : Int), .int .i64 x.seq, .int .u64 (x.gen : Int), .slice A4 x.body.length c4] 54)) := Bbox _ _
  generalize a3.alloc (.cells #[.int .i64 x.kind, .int .u64 (x.life : Int), .int .i64 x.seq, .int .u64 (x.gen : Int), .slice A4 x.body.length c4] 54) = a4 at hn4 hs4 ⊢
  have hb34 := Bthen hb4 hs4
  have hXb := (hb34.block _ (blk_lt hXa)).trans hXa
  have hBob := (hb34.block _ (blk_lt hBoa)).trans hBoa
  have hxb := hxa.below hb34
  have HBb := Lib.hid (HB3.out.below hb34)
  have HB4b := Lib.hid (HB4.out.below hs4)
  have hEb := hE3.below hb34
  have yyb := box_facts (((Bnil a4).block _ (blk_lt hn4)).trans hn4); have yy0 := fun x => (yyb x).1; have yy1 := fun x => (yyb x).2.1; have yy2 := fun x => (yyb x).2.2.1; have yy3 := fun x => (yyb x).2.2.2.1; have yy4 := fun x => (yyb x).2.2.2.2; clear yyb
  have zzb := box_facts (((Bnil a4).block _ (blk_lt hXb)).trans hXb); have zz0 := fun x => (zzb x).1; have zz1 := fun x => (zzb x).2.1; have zz2 := fun x => (zzb x).2.2.1; have zz3 := fun x => (zzb x).2.2.2.1; have zz4 := fun x => (zzb x).2.2.2.2; clear zzb
  go_wp2_with fail
  refine wp_region_in (BelowW a4) [(0, true), (1, true), (2, true), (3, true), (4, true), (5, true), (6, true), (7, true), (9, true), (8, false), (10, false), (11, true), (12, true), (13, true), (14, true), (15, true), (16, true), (17, true)] (by kernel_rfl) (by kernel_rfl) (fun _ _ _ _ _ h => h) (inB_drew _) (fun hne => ?_)
  simp only [permOps, List.map_cons, List.map_nil, List.getD_cons_zero, List.getD_cons_succ]
  (repeat ((with_reducible refine wpPerm_F ?_); intro K hK; go_simp; refine hK _ _ ?_; clear hK K))
  (with_reducible refine wpPerm_G ?_); intro K K' hK hK'; go_simp
  refine (back_any x A4 c4 _).mono ?_; rintro e a5 ⟨rfl, hba5⟩
  have hV1 : Below a4.heap.size a4 a5 := Bthen (Bdrew (Bnil _)) hba5
  (refine hK _ _ ?_; clear hK hK' K K')
  refine ⟨inB_more hV1, ?_⟩
  (with_reducible refine wpPerm_G ?_); intro K K' hK hK'; go_simp
  refine (RSame18_any x x A4 A c4 c a5 (HB4b.out.below hV1) hcap4 (hxb.below hV1).at_ hxb.cap (by omega) (by omega)).mono ?_; rintro e a6 ⟨rfl, hba6⟩
  have hV2 : Below a4.heap.size a4 a6 := Bthen hV1 hba6
  rw [show decide (x = x) = true by simp]
  (refine hK _ _ ?_; clear hK hK' K K')
  refine ⟨inB_more hV2, ?_⟩
  (repeat ((with_reducible refine wpPerm_F ?_); intro K hK; go_simp; refine hK _ _ ?_; clear hK K))
  refine wpPerm_nil ?_
  have hXc := (hV2.block _ (blk_lt hXb)).trans hXb
  have hBoc := (hV2.block _ (blk_lt hBob)).trans hBob
  have hxc := hxb.below hV2
  have HBc := Lib.hid (HBb.out.below hV2)
  have hEc := hEb.below hV2
  clear yy0 yy1 yy2 yy3 yy4 zz0 zz1 zz2 zz3 zz4
  obtain ⟨bo0, bo1, bof⟩ := cells2 hBoc
  go_wp2_with fail
  refine (Decode_any p g3 o3 c3 _ hEc HBc.out hcap3).mono ?_
  rintro e a7 hp7
  rw [Hdeq0.out] at hp7
  obtain ⟨A8, c8, rfl, _, hb8⟩ := hp7
  clear bo0 bo1 bof
  unfold secV
  go_wp2_with fail
  have hn8 := heap_alloc_new a7 (.cells #[.int .i64 x.kind, .int .u64 (x.life : Int), .int .i64 x.seq, .int .u64 (x.gen : Int), .slice A8 x.body.length c8] 54)
  have hs8 : Below a7.heap.size a7 (a7.alloc (.cells #[.int .i64 x.kind, .int .u64 (x.life : Int), .int .i64 x.seq, .int .u64 (x.gen : Int), .slice A8 x.body.length c8] 54)) := Bbox _ _
  generalize a7.alloc (.cells #[.int .i64 x.kind, .int .u64 (x.life : Int), .int .i64 x.seq, .int .u64 (x.gen : Int), .slice A8 x.body.length c8] 54) = a8 at hn8 hs8 ⊢
  have hb78 := Bthen hb8 hs8
  have hXd := (hb78.block _ (blk_lt hXc)).trans hXc
  have hBod := (hb78.block _ (blk_lt hBoc)).trans hBoc
  have hxd := hxc.below hb78
  have HBd := Lib.hid (HBc.out.below hb78)
  have hEd := hEc.below hb78
  have hFall : Frame T0 Z0 a8 := ((hFa.then hb34).then hV2).then hb78
  have hBall : Below w.heap.size w a8 := hBw0.trans (hFall.below (fun k hk => hT0w k hk) hBw0.size)
  have hU1' : SuitP a8 u1 (some []) T1 := hU1.keep hFall.size (fun k hk => hFall.block k (hU1.2.2 k hk) (fun h0 => hT01 k h0 hk))
  have hlb := hlb0.frame hFall (fun _ g0 o0 he h0 => by cases he; have := hT0w _ h0; omega)
  have hTB1 := hTB1a
  clear hU0 hx0 hX0 hBo0 hXa hXb hXc hBoa hBob hBoc hxa hxb hxc hEb hEc hE3 hEd hU1 hlb0 hn4 hn8
  have hX1 := hXd
  have hBo1 := hBod
  have hx1 := hxd
  clear hXd hBod hxd
  obtain ⟨Z1, hZ1⟩ : ∃ Z1, Z1 = a8 := ⟨_, rfl⟩
  rw [← hZ1] at hX1 hBo1 hx1 hU1' hlb hBall ⊢
  have hU1 := hU1'
  clear hU1' hZ1
  rw [rounds_succ]
  obtain ⟨bo0, bo1, bof⟩ := cells2 hBo1
  have hb0 : ∀ y : InS (FrameW T1 Z1), y.w.cell? ⟨Bb, 1, none⟩ = some (.pointer (some ⟨u1, 0, none⟩)) := fun y => by
    obtain ⟨q0, q1, _⟩ := cells2 (y.h.heap hBo1 hTB1)
    exact q1
  have xc := frame_cells hX1 hTX1
  have xc0 := fun y => (xc y).1
  have xc1 := fun y => (xc y).2.1
  have xc2 := fun y => (xc y).2.2.1
  have xc3 := fun y => (xc y).2.2.2.1
  have xc4 := fun y => (xc y).2.2.2.2
  clear xc
  go_wp2_with fail
  refine wp_region_in (FrameW T1 Z1) [(0, true), (1, true), (2, true), (3, true), (4, true), (5, true), (6, false), (7, false), (8, true), (9, true), (10, true), (11, true), (12, true)] (by kernel_rfl) (by kernel_rfl) (fun _ _ _ _ _ h => h) (Frame.drew (Frame.refl _ _)) (fun hne => ?_)
  simp only [permOps, List.map_cons, List.map_nil, List.getD_cons_zero, List.getD_cons_succ]
  (repeat ((with_reducible refine wpPerm_F ?_); intro K hK; go_simp; refine hK _ _ ?_; clear hK K))
  (with_reducible refine wpPerm_E rfl ?_); intro K hK
  go_wp2_with fail
  refine (of_any x A c _).mono ?_; rintro e a1 ⟨rfl, hba1⟩
  have hA1 : Below Z1.heap.size Z1 a1 := Bthen (Bdrew (Bnil _)) hba1
  (refine hK _ _ ?_; clear hK K)
  refine ⟨inF_more (Frame.of_below hA1), ?_⟩
  (with_reducible refine wpPerm_E rfl ?_); intro K hK
  go_wp2_with fail
  refine (Encode_all p x A c (hU1.below hA1) Hri.out (hx1.below hA1).at_ (by decide)).mono ?_; rintro e a2 ⟨A3, c3, rfl, hown3, hE3, hf3⟩
  have hFa : Frame T1 Z1 a2 := (Frame.of_below (S := T1) hA1).trans hf3 (fun _ hj => .inl hj)
  have hcap3 := own_cap hown3
  have hB3 := BytesAt.own hown3
  have hg3 := fun k hk => (hown3.lt k hk).1
  (refine hK _ _ ?_; clear hK K)
  refine ⟨inF_more hFa, ?_⟩
  (repeat ((with_reducible refine wpPerm_F ?_); intro K hK; go_simp; refine hK _ _ ?_; clear hK K))
  refine wpPerm_nil ?_
  obtain ⟨g3, o3, rfl, _⟩ := hB3.at_ (by decide)
  have hXa := hFa.heap hX1 hTX1
  have hBoa := hFa.heap hBo1 hTB1
  have hxa := hx1.frame hFa hTA1
  have HB3 := Lib.hid hB3
  clear hb0 xc0 xc1 xc2 xc3 xc4 bo0 bo1 bof hB3 hown3
  obtain ⟨bo0, bo1, bof⟩ := cells2 hBoa
  go_wp2_with fail
  refine (Decode_any p g3 o3 c3 _ hE3 HB3.out hcap3).mono ?_
  rintro e a3 hp3
  rw [Hdec1.out] at hp3
  obtain ⟨A4, c4, rfl, hown4, hb4⟩ := hp3
  have hcap4 := own_cap hown4
  have hB4 := BytesAt.own hown4
  simp only at hcap4 hB4
  have HB4 := Lib.hid hB4
  clear hown4 hB4 bo0 bo1 bof
  unfold secV
  go_wp2_with fail
  have hn4 := heap_alloc_new a3 (.cells #[.int .i64 x.kind, .int .u64 (x.life : Int), .int .i64 x.seq, .int .u64 (x.gen : Int), .slice A4 x.body.length c4] 54)
  have hs4 : Below a3.heap.size a3 (a3.alloc (.cells #[.int .i64 x.kind, .int .u64 (x.life : Int), .int .i64 x.seq, .int .u64 (x.gen : Int), .slice A4 x.body.length c4] 54)) := Bbox _ _
  generalize a3.alloc (.cells #[.int .i64 x.kind, .int .u64 (x.life : Int), .int .i64 x.seq, .int .u64 (x.gen : Int), .slice A4 x.body.length c4] 54) = a4 at hn4 hs4 ⊢
  have hb34 := Bthen hb4 hs4
  have hXb := (hb34.block _ (blk_lt hXa)).trans hXa
  have hBob := (hb34.block _ (blk_lt hBoa)).trans hBoa
  have hxb := hxa.below hb34
  have HBb := Lib.hid (HB3.out.below hb34)
  have HB4b := Lib.hid (HB4.out.below hs4)
  have hEb := hE3.below hb34
  have yyb := box_facts (((Bnil a4).block _ (blk_lt hn4)).trans hn4); have yy0 := fun x => (yyb x).1; have yy1 := fun x => (yyb x).2.1; have yy2 := fun x => (yyb x).2.2.1; have yy3 := fun x => (yyb x).2.2.2.1; have yy4 := fun x => (yyb x).2.2.2.2; clear yyb
  have zzb := box_facts (((Bnil a4).block _ (blk_lt hXb)).trans hXb); have zz0 := fun x => (zzb x).1; have zz1 := fun x => (zzb x).2.1; have zz2 := fun x => (zzb x).2.2.1; have zz3 := fun x => (zzb x).2.2.2.1; have zz4 := fun x => (zzb x).2.2.2.2; clear zzb
  go_wp2_with fail
  refine wp_region_in (BelowW a4) [(0, true), (1, true), (2, true), (3, true), (4, true), (5, true), (6, true), (7, true), (9, true), (8, false), (10, false), (11, true), (12, true), (13, true), (14, true), (15, true), (16, true), (17, true)] (by kernel_rfl) (by kernel_rfl) (fun _ _ _ _ _ h => h) (inB_drew _) (fun hne => ?_)
  simp only [permOps, List.map_cons, List.map_nil, List.getD_cons_zero, List.getD_cons_succ]
  (repeat ((with_reducible refine wpPerm_F ?_); intro K hK; go_simp; refine hK _ _ ?_; clear hK K))
  (with_reducible refine wpPerm_G ?_); intro K K' hK hK'; go_simp
  refine (back_any x A4 c4 _).mono ?_; rintro e a5 ⟨rfl, hba5⟩
  have hV1 : Below a4.heap.size a4 a5 := Bthen (Bdrew (Bnil _)) hba5
  (refine hK _ _ ?_; clear hK hK' K K')
  refine ⟨inB_more hV1, ?_⟩
  (with_reducible refine wpPerm_G ?_); intro K K' hK hK'; go_simp
  refine (RSame18_any x x A4 A c4 c a5 (HB4b.out.below hV1) hcap4 (hxb.below hV1).at_ hxb.cap (by omega) (by omega)).mono ?_; rintro e a6 ⟨rfl, hba6⟩
  have hV2 : Below a4.heap.size a4 a6 := Bthen hV1 hba6
  rw [show decide (x = x) = true by simp]
  (refine hK _ _ ?_; clear hK hK' K K')
  refine ⟨inB_more hV2, ?_⟩
  (repeat ((with_reducible refine wpPerm_F ?_); intro K hK; go_simp; refine hK _ _ ?_; clear hK K))
  refine wpPerm_nil ?_
  have hXc := (hV2.block _ (blk_lt hXb)).trans hXb
  have hBoc := (hV2.block _ (blk_lt hBob)).trans hBob
  have hxc := hxb.below hV2
  have HBc := Lib.hid (HBb.out.below hV2)
  have hEc := hEb.below hV2
  clear yy0 yy1 yy2 yy3 yy4 zz0 zz1 zz2 zz3 zz4
  obtain ⟨bo0, bo1, bof⟩ := cells2 hBoc
  go_wp2_with fail
  refine (Decode_any p g3 o3 c3 _ hEc HBc.out hcap3).mono ?_
  rintro e a7 hp7
  rw [Hdeq1.out] at hp7
  obtain ⟨A8, c8, rfl, _, hb8⟩ := hp7
  clear bo0 bo1 bof
  unfold secV
  go_wp2_with fail
  have hn8 := heap_alloc_new a7 (.cells #[.int .i64 x.kind, .int .u64 (x.life : Int), .int .i64 x.seq, .int .u64 (x.gen : Int), .slice A8 x.body.length c8] 54)
  have hs8 : Below a7.heap.size a7 (a7.alloc (.cells #[.int .i64 x.kind, .int .u64 (x.life : Int), .int .i64 x.seq, .int .u64 (x.gen : Int), .slice A8 x.body.length c8] 54)) := Bbox _ _
  generalize a7.alloc (.cells #[.int .i64 x.kind, .int .u64 (x.life : Int), .int .i64 x.seq, .int .u64 (x.gen : Int), .slice A8 x.body.length c8] 54) = a8 at hn8 hs8 ⊢
  have hb78 := Bthen hb8 hs8
  have hXd := (hb78.block _ (blk_lt hXc)).trans hXc
  have hBod := (hb78.block _ (blk_lt hBoc)).trans hBoc
  have hxd := hxc.below hb78
  have HBd := Lib.hid (HBc.out.below hb78)
  have hEd := hEc.below hb78
  have hFall : Frame T1 Z1 a8 := ((hFa.then hb34).then hV2).then hb78
  have hBfin : Below w.heap.size w a8 := hBall.trans (hFall.below (fun k hk => hT1w k hk) hBall.size)
  have hlbz := hlb.frame hFall (fun _ g0 o0 he h0 => by cases he; have := hT1w _ h0; omega)
  refine (RSame_any (some ⟨gb, ob, none⟩) (some ⟨g3, o3, none⟩) 512 512 d c3 lb _ a8 hlbz hd HBd.out hcap3 (by decide) (by decide)).mono ?_; rintro e a9 ⟨rfl, hb9⟩
  have hBo9 := (hb9.block _ (blk_lt hBod)).trans hBod
  have hB9 := Bthen hBfin hb9
  have hE9 := hEd.below hb9
  have hlb9 := hlbz.below hb9
  by_cases hsame : lb = (encK (some []) p x).1
  · rw [show decide (lb = (encK (some []) p x).1) = true by simpa using hsame]
    go_wp2_with fail
    rw [rounds_succ]
    go_wp2_with fail
    refine (alive18_any _).mono ?_; rintro e az ⟨rfl, hbz⟩
    go_wp2_with fail
    go_ret
    exact ⟨rfl, Bthen hB9 hbz⟩
  · rw [show decide (lb = (encK (some []) p x).1) = false by simpa using hsame]
    obtain ⟨rf, hrf, hrf0⟩ := decK_alone2 hsame
    have hrfb : (rf == 0) = false := by simpa using hrf0
    have Hrf := Lib.hid hrf; clear hrf hsame hrf0
    obtain ⟨bo0, bo1, bof⟩ := cells2 hBo9
    go_wp2_with fail
    refine (Decode_any p gb ob d lb hE9 hlb9 hd).mono ?_
    rintro e a10 hp10
    rw [Hrf.out] at hp10
    obtain ⟨A10, c10, rfl, _, hb10⟩ := hp10
    have hB10 := Bthen hB9 hb10
    clear bo0 bo1 bof hE9
    unfold secV secZero
    simp only [List.length_nil]
    go_wp2_with fail
    rw [rounds_succ]
    go_wp2_with fail
    refine (alive18_any _).mono ?_; rintro e az ⟨rfl, hbz⟩
    go_wp2_with fail
    go_ret
    exact ⟨rfl, Bthen (Bnew hB10 _) hbz⟩

set_option maxRecDepth 100000 in
set_option maxHeartbeats 8000000 in
theorem SectorBack_diff (p q : Int) (x : Sec) (A : Option Addr) (c gb ob d : Nat) (lb : List UInt8) (w : World) (hx : SecIn w x A c) (hA : 0 < x.body.length → ∀ g o, A = some ⟨g, o, none⟩ → g < w.heap.size) (hlb : BytesAt w (some ⟨gb, ob, none⟩) 512 lb) (hd : 512 ≤ d) (hri : rightS p x = 0) (hq : q ≠ p) :
    Calls Try.prog 9 #[.int .i64 p, .int .i64 q, secV x A c, .slice (some ⟨gb, ob, none⟩) 512 d] w fun e w' => e = .returned (.bool true) ∧ Below w.heap.size w w' := by
  have hxl : x.body.length ≤ 479 := (rightS_ok.1 hri).2.2.2.2.2.2
  have hgb := hlb.lt (by decide)
  have Hdec0 : Hid (decK (encK none p x).2 p (encK none p x).1 = (0, x)) := Lib.hid (decK_enc hri hx.life hx.gen)
  have Hdec1 : Hid (decK (encK (some []) p x).2 p (encK (some []) p x).1 = (0, x)) := Lib.hid (decK_enc hri hx.life hx.gen)
  have Hdeq0 : Hid (decK (encK none p x).2 q (encK none p x).1 = (11, secZero)) := Lib.hid (decK_other hri hq)
  have Hdeq1 : Hid (decK (encK (some []) p x).2 q (encK (some []) p x).1 = (11, secZero)) := Lib.hid (decK_other hri hq)
  have hR := fun W (hW : Below w.heap.size w W) => RRight_in p x A c W (hx.below hW)
  have hB0 : Below w.heap.size w (w.alloc (.cells #[.int .i64 x.kind, .int .u64 (x.life : Int), .int .i64 x.seq, .int .u64 (x.gen : Int), .slice A x.body.length c] 60)) := Bbox _ _
  have hX := heap_alloc_new w (.cells #[.int .i64 x.kind, .int .u64 (x.life : Int), .int .i64 x.seq, .int .u64 (x.gen : Int), .slice A x.body.length c] 60)
  unfold secV at hR ⊢
  have HR := Lib.hid hR; clear hR
  have Hri := Lib.hid hri; clear hri
  have Hlb := Lib.hid hlb; clear hlb
  have Hx := Lib.hid hX; clear hX
  have HB0 := Lib.hid hB0; clear hB0
  go_enter Try.func9, Try.ntmps9
  go_wp2_with fail
  have hB0 := HB0.out
  have hX := Hx.out
  clear HB0 Hx
  generalize w.alloc (.cells #[.int .i64 x.kind, .int .u64 (x.life : Int), .int .i64 x.seq, .int .u64 (x.gen : Int), .slice A x.body.length c] 60) = W0 at hB0 hX ⊢
  refine (HR.out W0 hB0).mono ?_; rintro e b1 ⟨rfl, hb1⟩
  rw [Hri.out]
  have hXb1 := (hb1.block _ (blk_lt hX)).trans hX
  have hB1 := Bthen hB0 hb1
  have hxlt := blk_lt hXb1
  go_wp2_with fail
  refine (Real_any b1).mono ?_; rintro e b2 ⟨u0, T0, rfl, hU0, hT0l, hb2⟩
  go_wp2_with fail
  refine (Symbolic_any b2).mono ?_; rintro e b3 ⟨u1, T1, rfl, hU1, hT1l, hb3⟩
  go_wp2_with fail
  have hs1 := hB1.size
  have hs2 := hb2.size
  have hs3 := hb3.size
  have hb13 := Bthen hb2 hb3
  have hn0 := heap_alloc_new b3 (.cells #[.pointer (some ⟨u0, 0, none⟩), .pointer (some ⟨u1, 0, none⟩)] 57)
  have hs0 : Below b3.heap.size b3 (b3.alloc (.cells #[.pointer (some ⟨u0, 0, none⟩), .pointer (some ⟨u1, 0, none⟩)] 57)) := Bbox _ _
  have hBb : ∃ Bb, Bb = b3.heap.size := ⟨_, rfl⟩
  obtain ⟨Bb, hBb⟩ := hBb
  rw [← hBb] at hn0 ⊢
  generalize b3.alloc (.cells #[.pointer (some ⟨u0, 0, none⟩), .pointer (some ⟨u1, 0, none⟩)] 57) = Z0 at hn0 hs0 ⊢
  have hBo0 := hn0
  have hX0 := ((Bthen hb13 hs0).block _ (blk_lt hXb1)).trans hXb1
  have hBw0 := Bthen (Bthen hB1 hb13) hs0
  have hx0 := hx.below hBw0
  have hlb0 := Hlb.out.below hBw0
  have hU0' := (hU0.below hb3).below hs0
  have hU1' := hU1.below hs0
  have hT0u := hU0.2.2
  have hT1u := hU1.2.2
  have hT0w : ∀ k, T0 k → w.heap.size ≤ k := fun k hk => by have := hT0l k hk; omega
  have hT1w : ∀ k, T1 k → w.heap.size ≤ k := fun k hk => by have := hT1l k hk; omega
  have hT01 : ∀ k, T0 k → ¬ T1 k := fun k h0 h1 => by have := hT0u k h0; have := hT1l k h1; omega
  have hTB0 : ¬ T0 Bb := fun h0 => by have := hT0u _ h0; omega
  have hTB1a : ¬ T1 Bb := fun h0 => by have := hT1u _ h0; omega
  have hTX0 : ¬ T0 w.heap.size := fun h0 => by have := hT0l _ h0; omega
  have hTX1 : ¬ T1 w.heap.size := fun h0 => by have := hT1l _ h0; omega
  have hTA0 : 0 < x.body.length → ∀ g o, A = some ⟨g, o, none⟩ → ¬ T0 g := fun hp g o he h0 => by have := hT0l _ h0; have := hA hp g o he; omega
  have hTA1 : 0 < x.body.length → ∀ g o, A = some ⟨g, o, none⟩ → ¬ T1 g := fun hp g o he h0 => by have := hT1l _ h0; have := hA hp g o he; omega
  clear hU0 hU1 hX hXb1 hn0
  have hU0 := hU0'
  have hU1 := hU1'
  clear hU0' hU1' hBb
  refine wp_loop_rounds 3 ?_
  rw [rounds_succ]
  obtain ⟨bo0, bo1, bof⟩ := cells2 hBo0
  have hb0 : ∀ y : InS (FrameW T0 Z0), y.w.cell? ⟨Bb, 0, none⟩ = some (.pointer (some ⟨u0, 0, none⟩)) := fun y => by
    obtain ⟨q0, q1, _⟩ := cells2 (y.h.heap hBo0 hTB0)
    exact q0
  have xc := frame_cells hX0 hTX0
  have xc0 := fun y => (xc y).1
  have xc1 := fun y => (xc y).2.1
  have xc2 := fun y => (xc y).2.2.1
  have xc3 := fun y => (xc y).2.2.2.1
  have xc4 := fun y => (xc y).2.2.2.2
  clear xc
  go_wp2_with fail
  refine wp_region_in (FrameW T0 Z0) [(0, true), (1, true), (2, true), (3, true), (4, true), (5, true), (6, false), (7, false), (8, true), (9, true), (10, true), (11, true), (12, true)] (by kernel_rfl) (by kernel_rfl) (fun _ _ _ _ _ h => h) (Frame.drew (Frame.refl _ _)) (fun hne => ?_)
  simp only [permOps, List.map_cons, List.map_nil, List.getD_cons_zero, List.getD_cons_succ]
  (repeat ((with_reducible refine wpPerm_F ?_); intro K hK; go_simp; refine hK _ _ ?_; clear hK K))
  (with_reducible refine wpPerm_E rfl ?_); intro K hK
  go_wp2_with fail
  refine (of_any x A c _).mono ?_; rintro e a1 ⟨rfl, hba1⟩
  have hA1 : Below Z0.heap.size Z0 a1 := Bthen (Bdrew (Bnil _)) hba1
  (refine hK _ _ ?_; clear hK K)
  refine ⟨inF_more (Frame.of_below hA1), ?_⟩
  (with_reducible refine wpPerm_E rfl ?_); intro K hK
  go_wp2_with fail
  refine (Encode_all p x A c (hU0.below hA1) Hri.out (hx0.below hA1).at_ (by decide)).mono ?_; rintro e a2 ⟨A3, c3, rfl, hown3, hE3, hf3⟩
  have hFa : Frame T0 Z0 a2 := (Frame.of_below (S := T0) hA1).trans hf3 (fun _ hj => .inl hj)
  have hcap3 := own_cap hown3
  have hB3 := BytesAt.own hown3
  have hg3 := fun k hk => (hown3.lt k hk).1
  (refine hK _ _ ?_; clear hK K)
  refine ⟨inF_more hFa, ?_⟩
  (repeat ((with_reducible refine wpPerm_F ?_); intro K hK; go_simp; refine hK _ _ ?_; clear hK K))
  refine wpPerm_nil ?_
  obtain ⟨g3, o3, rfl, _⟩ := hB3.at_ (by decide)
  have hXa := hFa.heap hX0 hTX0
  have hBoa := hFa.heap hBo0 hTB0
  have hxa := hx0.frame hFa hTA0
  have HB3 := Lib.hid hB3
  clear hb0 xc0 xc1 xc2 xc3 xc4 bo0 bo1 bof hB3 hown3
  obtain ⟨bo0, bo1, bof⟩ := cells2 hBoa
  go_wp2_with fail
  refine (Decode_any p g3 o3 c3 _ hE3 HB3.out hcap3).mono ?_
  rintro e a3 hp3
  rw [Hdec0.out] at hp3
  obtain ⟨A4, c4, rfl, hown4, hb4⟩ := hp3
  have hcap4 := own_cap hown4
  have hB4 := BytesAt.own hown4
  simp only at hcap4 hB4
  have HB4 := Lib.hid hB4
  clear hown4 hB4 bo0 bo1 bof
  unfold secV
  go_wp2_with fail
  have hn4 := heap_alloc_new a3 (.cells #[.int .i64 x.kind, .int .u64 (x.life : Int), .int .i64 x.seq, .int .u64 (x.gen : Int), .slice A4 x.body.length c4] 54)
  have hs4 : Below a3.heap.size a3 (a3.alloc (.cells #[.int .i64 x.kind, .int .u64 (x.life : Int), .int .i64 x.seq, .int .u64 (x.gen : Int), .slice A4 x.body.length c4] 54)) := Bbox _ _
  generalize a3.alloc (.cells #[.int .i64 x.kind, .int .u64 (x.life : Int), .int .i64 x.seq, .int .u64 (x.gen : Int), .slice A4 x.body.length c4] 54) = a4 at hn4 hs4 ⊢
  have hb34 := Bthen hb4 hs4
  have hXb := (hb34.block _ (blk_lt hXa)).trans hXa
  have hBob := (hb34.block _ (blk_lt hBoa)).trans hBoa
  have hxb := hxa.below hb34
  have HBb := Lib.hid (HB3.out.below hb34)
  have HB4b := Lib.hid (HB4.out.below hs4)
  have hEb := hE3.below hb34
  have yyb := box_facts (((Bnil a4).block _ (blk_lt hn4)).trans hn4); have yy0 := fun x => (yyb x).1; have yy1 := fun x => (yyb x).2.1; have yy2 := fun x => (yyb x).2.2.1; have yy3 := fun x => (yyb x).2.2.2.1; have yy4 := fun x => (yyb x).2.2.2.2; clear yyb
  have zzb := box_facts (((Bnil a4).block _ (blk_lt hXb)).trans hXb); have zz0 := fun x => (zzb x).1; have zz1 := fun x => (zzb x).2.1; have zz2 := fun x => (zzb x).2.2.1; have zz3 := fun x => (zzb x).2.2.2.1; have zz4 := fun x => (zzb x).2.2.2.2; clear zzb
  go_wp2_with fail
  refine wp_region_in (BelowW a4) [(0, true), (1, true), (2, true), (3, true), (4, true), (5, true), (6, true), (7, true), (9, true), (8, false), (10, false), (11, true), (12, true), (13, true), (14, true), (15, true), (16, true), (17, true)] (by kernel_rfl) (by kernel_rfl) (fun _ _ _ _ _ h => h) (inB_drew _) (fun hne => ?_)
  simp only [permOps, List.map_cons, List.map_nil, List.getD_cons_zero, List.getD_cons_succ]
  (repeat ((with_reducible refine wpPerm_F ?_); intro K hK; go_simp; refine hK _ _ ?_; clear hK K))
  (with_reducible refine wpPerm_G ?_); intro K K' hK hK'; go_simp
  refine (back_any x A4 c4 _).mono ?_; rintro e a5 ⟨rfl, hba5⟩
  have hV1 : Below a4.heap.size a4 a5 := Bthen (Bdrew (Bnil _)) hba5
  (refine hK _ _ ?_; clear hK hK' K K')
  refine ⟨inB_more hV1, ?_⟩
  (with_reducible refine wpPerm_G ?_); intro K K' hK hK'; go_simp
  refine (RSame18_any x x A4 A c4 c a5 (HB4b.out.below hV1) hcap4 (hxb.below hV1).at_ hxb.cap (by omega) (by omega)).mono ?_; rintro e a6 ⟨rfl, hba6⟩
  have hV2 : Below a4.heap.size a4 a6 := Bthen hV1 hba6
  rw [show decide (x = x) = true by simp]
  (refine hK _ _ ?_; clear hK hK' K K')
  refine ⟨inB_more hV2, ?_⟩
  (repeat ((with_reducible refine wpPerm_F ?_); intro K hK; go_simp; refine hK _ _ ?_; clear hK K))
  refine wpPerm_nil ?_
  have hXc := (hV2.block _ (blk_lt hXb)).trans hXb
  have hBoc := (hV2.block _ (blk_lt hBob)).trans hBob
  have hxc := hxb.below hV2
  have HBc := Lib.hid (HBb.out.below hV2)
  have hEc := hEb.below hV2
  clear yy0 yy1 yy2 yy3 yy4 zz0 zz1 zz2 zz3 zz4
  obtain ⟨bo0, bo1, bof⟩ := cells2 hBoc
  go_wp2_with fail
  refine (Decode_any q g3 o3 c3 _ hEc HBc.out hcap3).mono ?_
  rintro e a7 hp7
  rw [Hdeq0.out] at hp7
  obtain ⟨A8, c8, rfl, _, hb8⟩ := hp7
  clear bo0 bo1 bof
  unfold secV secZero
  simp only [List.length_nil]
  go_wp2_with fail
  have hn8 := heap_alloc_new a7 (.cells #[.int .i64 0, .int .u64 0, .int .i64 0, .int .u64 0, .slice A8 0 c8] 54)
  have hs8 : Below a7.heap.size a7 (a7.alloc (.cells #[.int .i64 0, .int .u64 0, .int .i64 0, .int .u64 0, .slice A8 0 c8] 54)) := Bbox _ _
  generalize a7.alloc (.cells #[.int .i64 0, .int .u64 0, .int .i64 0, .int .u64 0, .slice A8 0 c8] 54) = a8 at hn8 hs8 ⊢
  have hb78 := Bthen hb8 hs8
  have hXd := (hb78.block _ (blk_lt hXc)).trans hXc
  have hBod := (hb78.block _ (blk_lt hBoc)).trans hBoc
  have hxd := hxc.below hb78
  have HBd := Lib.hid (HBc.out.below hb78)
  have hEd := hEc.below hb78
  have hFall : Frame T0 Z0 a8 := ((hFa.then hb34).then hV2).then hb78
  have hBall : Below w.heap.size w a8 := hBw0.trans (hFall.below (fun k hk => hT0w k hk) hBw0.size)
  have hU1' : SuitP a8 u1 (some []) T1 := hU1.keep hFall.size (fun k hk => hFall.block k (hU1.2.2 k hk) (fun h0 => hT01 k h0 hk))
  have hlb := hlb0.frame hFall (fun _ g0 o0 he h0 => by cases he; have := hT0w _ h0; omega)
  have hTB1 := hTB1a
  clear hU0 hx0 hX0 hBo0 hXa hXb hXc hBoa hBob hBoc hxa hxb hxc hEb hEc hE3 hEd hU1 hlb0 hn4 hn8
  have hX1 := hXd
  have hBo1 := hBod
  have hx1 := hxd
  clear hXd hBod hxd
  obtain ⟨Z1, hZ1⟩ : ∃ Z1, Z1 = a8 := ⟨_, rfl⟩
  rw [← hZ1] at hX1 hBo1 hx1 hU1' hlb hBall ⊢
  have hU1 := hU1'
  clear hU1' hZ1
  rw [rounds_succ]
  obtain ⟨bo0, bo1, bof⟩ := cells2 hBo1
  have hb0 : ∀ y : InS (FrameW T1 Z1), y.w.cell? ⟨Bb, 1, none⟩ = some (.pointer (some ⟨u1, 0, none⟩)) := fun y => by
    obtain ⟨q0, q1, _⟩ := cells2 (y.h.heap hBo1 hTB1)
    exact q1
  have xc := frame_cells hX1 hTX1
  have xc0 := fun y => (xc y).1
  have xc1 := fun y => (xc y).2.1
  have xc2 := fun y => (xc y).2.2.1
  have xc3 := fun y => (xc y).2.2.2.1
  have xc4 := fun y => (xc y).2.2.2.2
  clear xc
  go_wp2_with fail
  refine wp_region_in (FrameW T1 Z1) [(0, true), (1, true), (2, true), (3, true), (4, true), (5, true), (6, false), (7, false), (8, true), (9, true), (10, true), (11, true), (12, true)] (by kernel_rfl) (by kernel_rfl) (fun _ _ _ _ _ h => h) (Frame.drew (Frame.refl _ _)) (fun hne => ?_)
  simp only [permOps, List.map_cons, List.map_nil, List.getD_cons_zero, List.getD_cons_succ]
  (repeat ((with_reducible refine wpPerm_F ?_); intro K hK; go_simp; refine hK _ _ ?_; clear hK K))
  (with_reducible refine wpPerm_E rfl ?_); intro K hK
  go_wp2_with fail
  refine (of_any x A c _).mono ?_; rintro e a1 ⟨rfl, hba1⟩
  have hA1 : Below Z1.heap.size Z1 a1 := Bthen (Bdrew (Bnil _)) hba1
  (refine hK _ _ ?_; clear hK K)
  refine ⟨inF_more (Frame.of_below hA1), ?_⟩
  (with_reducible refine wpPerm_E rfl ?_); intro K hK
  go_wp2_with fail
  refine (Encode_all p x A c (hU1.below hA1) Hri.out (hx1.below hA1).at_ (by decide)).mono ?_; rintro e a2 ⟨A3, c3, rfl, hown3, hE3, hf3⟩
  have hFa : Frame T1 Z1 a2 := (Frame.of_below (S := T1) hA1).trans hf3 (fun _ hj => .inl hj)
  have hcap3 := own_cap hown3
  have hB3 := BytesAt.own hown3
  have hg3 := fun k hk => (hown3.lt k hk).1
  (refine hK _ _ ?_; clear hK K)
  refine ⟨inF_more hFa, ?_⟩
  (repeat ((with_reducible refine wpPerm_F ?_); intro K hK; go_simp; refine hK _ _ ?_; clear hK K))
  refine wpPerm_nil ?_
  obtain ⟨g3, o3, rfl, _⟩ := hB3.at_ (by decide)
  have hXa := hFa.heap hX1 hTX1
  have hBoa := hFa.heap hBo1 hTB1
  have hxa := hx1.frame hFa hTA1
  have HB3 := Lib.hid hB3
  clear hb0 xc0 xc1 xc2 xc3 xc4 bo0 bo1 bof hB3 hown3
  obtain ⟨bo0, bo1, bof⟩ := cells2 hBoa
  go_wp2_with fail
  refine (Decode_any p g3 o3 c3 _ hE3 HB3.out hcap3).mono ?_
  rintro e a3 hp3
  rw [Hdec1.out] at hp3
  obtain ⟨A4, c4, rfl, hown4, hb4⟩ := hp3
  have hcap4 := own_cap hown4
  have hB4 := BytesAt.own hown4
  simp only at hcap4 hB4
  have HB4 := Lib.hid hB4
  clear hown4 hB4 bo0 bo1 bof
  unfold secV
  go_wp2_with fail
  have hn4 := heap_alloc_new a3 (.cells #[.int .i64 x.kind, .int .u64 (x.life : Int), .int .i64 x.seq, .int .u64 (x.gen : Int), .slice A4 x.body.length c4] 54)
  have hs4 : Below a3.heap.size a3 (a3.alloc (.cells #[.int .i64 x.kind, .int .u64 (x.life : Int), .int .i64 x.seq, .int .u64 (x.gen : Int), .slice A4 x.body.length c4] 54)) := Bbox _ _
  generalize a3.alloc (.cells #[.int .i64 x.kind, .int .u64 (x.life : Int), .int .i64 x.seq, .int .u64 (x.gen : Int), .slice A4 x.body.length c4] 54) = a4 at hn4 hs4 ⊢
  have hb34 := Bthen hb4 hs4
  have hXb := (hb34.block _ (blk_lt hXa)).trans hXa
  have hBob := (hb34.block _ (blk_lt hBoa)).trans hBoa
  have hxb := hxa.below hb34
  have HBb := Lib.hid (HB3.out.below hb34)
  have HB4b := Lib.hid (HB4.out.below hs4)
  have hEb := hE3.below hb34
  have yyb := box_facts (((Bnil a4).block _ (blk_lt hn4)).trans hn4); have yy0 := fun x => (yyb x).1; have yy1 := fun x => (yyb x).2.1; have yy2 := fun x => (yyb x).2.2.1; have yy3 := fun x => (yyb x).2.2.2.1; have yy4 := fun x => (yyb x).2.2.2.2; clear yyb
  have zzb := box_facts (((Bnil a4).block _ (blk_lt hXb)).trans hXb); have zz0 := fun x => (zzb x).1; have zz1 := fun x => (zzb x).2.1; have zz2 := fun x => (zzb x).2.2.1; have zz3 := fun x => (zzb x).2.2.2.1; have zz4 := fun x => (zzb x).2.2.2.2; clear zzb
  go_wp2_with fail
  refine wp_region_in (BelowW a4) [(0, true), (1, true), (2, true), (3, true), (4, true), (5, true), (6, true), (7, true), (9, true), (8, false), (10, false), (11, true), (12, true), (13, true), (14, true), (15, true), (16, true), (17, true)] (by kernel_rfl) (by kernel_rfl) (fun _ _ _ _ _ h => h) (inB_drew _) (fun hne => ?_)
  simp only [permOps, List.map_cons, List.map_nil, List.getD_cons_zero, List.getD_cons_succ]
  (repeat ((with_reducible refine wpPerm_F ?_); intro K hK; go_simp; refine hK _ _ ?_; clear hK K))
  (with_reducible refine wpPerm_G ?_); intro K K' hK hK'; go_simp
  refine (back_any x A4 c4 _).mono ?_; rintro e a5 ⟨rfl, hba5⟩
  have hV1 : Below a4.heap.size a4 a5 := Bthen (Bdrew (Bnil _)) hba5
  (refine hK _ _ ?_; clear hK hK' K K')
  refine ⟨inB_more hV1, ?_⟩
  (with_reducible refine wpPerm_G ?_); intro K K' hK hK'; go_simp
  refine (RSame18_any x x A4 A c4 c a5 (HB4b.out.below hV1) hcap4 (hxb.below hV1).at_ hxb.cap (by omega) (by omega)).mono ?_; rintro e a6 ⟨rfl, hba6⟩
  have hV2 : Below a4.heap.size a4 a6 := Bthen hV1 hba6
  rw [show decide (x = x) = true by simp]
  (refine hK _ _ ?_; clear hK hK' K K')
  refine ⟨inB_more hV2, ?_⟩
  (repeat ((with_reducible refine wpPerm_F ?_); intro K hK; go_simp; refine hK _ _ ?_; clear hK K))
  refine wpPerm_nil ?_
  have hXc := (hV2.block _ (blk_lt hXb)).trans hXb
  have hBoc := (hV2.block _ (blk_lt hBob)).trans hBob
  have hxc := hxb.below hV2
  have HBc := Lib.hid (HBb.out.below hV2)
  have hEc := hEb.below hV2
  clear yy0 yy1 yy2 yy3 yy4 zz0 zz1 zz2 zz3 zz4
  obtain ⟨bo0, bo1, bof⟩ := cells2 hBoc
  go_wp2_with fail
  refine (Decode_any q g3 o3 c3 _ hEc HBc.out hcap3).mono ?_
  rintro e a7 hp7
  rw [Hdeq1.out] at hp7
  obtain ⟨A8, c8, rfl, _, hb8⟩ := hp7
  clear bo0 bo1 bof
  unfold secV secZero
  simp only [List.length_nil]
  go_wp2_with fail
  have hn8 := heap_alloc_new a7 (.cells #[.int .i64 0, .int .u64 0, .int .i64 0, .int .u64 0, .slice A8 0 c8] 54)
  have hs8 : Below a7.heap.size a7 (a7.alloc (.cells #[.int .i64 0, .int .u64 0, .int .i64 0, .int .u64 0, .slice A8 0 c8] 54)) := Bbox _ _
  generalize a7.alloc (.cells #[.int .i64 0, .int .u64 0, .int .i64 0, .int .u64 0, .slice A8 0 c8] 54) = a8 at hn8 hs8 ⊢
  have hb78 := Bthen hb8 hs8
  have hXd := (hb78.block _ (blk_lt hXc)).trans hXc
  have hBod := (hb78.block _ (blk_lt hBoc)).trans hBoc
  have hxd := hxc.below hb78
  have HBd := Lib.hid (HBc.out.below hb78)
  have hEd := hEc.below hb78
  have hFall : Frame T1 Z1 a8 := ((hFa.then hb34).then hV2).then hb78
  have hBfin : Below w.heap.size w a8 := hBall.trans (hFall.below (fun k hk => hT1w k hk) hBall.size)
  have hlbz := hlb.frame hFall (fun _ g0 o0 he h0 => by cases he; have := hT1w _ h0; omega)
  refine (RSame_any (some ⟨gb, ob, none⟩) (some ⟨g3, o3, none⟩) 512 512 d c3 lb _ a8 hlbz hd HBd.out hcap3 (by decide) (by decide)).mono ?_; rintro e a9 ⟨rfl, hb9⟩
  have hBo9 := (hb9.block _ (blk_lt hBod)).trans hBod
  have hB9 := Bthen hBfin hb9
  have hE9 := hEd.below hb9
  have hlb9 := hlbz.below hb9
  by_cases hsame : lb = (encK (some []) p x).1
  · rw [show decide (lb = (encK (some []) p x).1) = true by simpa using hsame]
    go_wp2_with fail
    rw [rounds_succ]
    go_wp2_with fail
    refine (alive18_any _).mono ?_; rintro e az ⟨rfl, hbz⟩
    go_wp2_with fail
    go_ret
    exact ⟨rfl, Bthen hB9 hbz⟩
  · rw [show decide (lb = (encK (some []) p x).1) = false by simpa using hsame]
    obtain ⟨rf, hrf, hrf0⟩ := decK_alone2 hsame
    have hrfb : (rf == 0) = false := by simpa using hrf0
    have Hrf := Lib.hid hrf; clear hrf hsame hrf0
    obtain ⟨bo0, bo1, bof⟩ := cells2 hBo9
    go_wp2_with fail
    refine (Decode_any p gb ob d lb hE9 hlb9 hd).mono ?_
    rintro e a10 hp10
    rw [Hrf.out] at hp10
    obtain ⟨A10, c10, rfl, _, hb10⟩ := hp10
    have hB10 := Bthen hB9 hb10
    clear bo0 bo1 bof hE9
    unfold secV secZero
    simp only [List.length_nil]
    go_wp2_with fail
    rw [rounds_succ]
    go_wp2_with fail
    refine (alive18_any _).mono ?_; rintro e az ⟨rfl, hbz⟩
    go_wp2_with fail
    go_ret
    exact ⟨rfl, Bthen (Bnew hB10 _) hbz⟩

theorem SectorBack_walk (p q : Int) (x : Sec) (A B : Option Addr) (c n d : Nat) (lb : List UInt8) (w : World) (hx : SecIn w x A c) (hlb : BytesAt w B n lb) (hd : n ≤ d) :
    Calls Try.prog 9 #[.int .i64 p, .int .i64 q, secV x A c, .slice B n d] w fun e w' => e = .returned (.bool true) ∧ Below w.heap.size w w' := by
  by_cases h : rightS p x ≠ 0 ∨ n ≠ 512
  · exact SectorBack_out p q x A B c n d w hx h
  · have hr : rightS p x = 0 := Classical.byContradiction fun h' => h (.inl h')
    have hn : n = 512 := Classical.byContradiction fun h' => h (.inr h')
    subst hn
    obtain ⟨gb, ob, rfl, _⟩ := hlb.at_ (by decide)
    have hA : 0 < x.body.length → ∀ g o, A = some ⟨g, o, none⟩ → g < w.heap.size := fun hp g o he => by
      have := hx.at_
      rw [he] at this
      exact this.lt hp
    by_cases hq : p = q
    · exact SectorBack_same p q x A c gb ob d lb w hx hA hlb hd hr hq
    · exact SectorBack_diff p q x A c gb ob d lb w hx hA hlb hd hr (fun e => hq e.symm)

end Go.Proofs.Ytdjndeleafhglaa
