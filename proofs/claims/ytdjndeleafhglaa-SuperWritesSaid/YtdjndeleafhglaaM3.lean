/-
  Numbers as bytes, sums, and what stands in a sector: plain lists, no program.
  The walks of the package num that the layers above use: Put, Pad, Get.
  Sums of terms, and what is read of a sector's bytes by them: plain lists, no program.
  The document's own small words: Mod, Same, Join; and the law's full.
  Bytes in memory: rows of the call's own, and what is appended to them.
  The walks of the package crc, of mark, and of sector.right and sector.none.
  Bytes: are they the same, are they blank; blank ones.
  How a suite lies in memory; the walks of Sum and Check, of the real one and of that of terms.
  The walks of sector.written and sector.Encode.
  The walks of sector.read and sector.Decode.
  The walk of sector.Decode.
  The walk of sector.Decode, where the bytes are some.
  Suites that are made.
  A disk and a suite of terms together, in blocks apart.
-/
import Derived.Test.YtdjndeleafhglaaM2
import Derived.Deep.AppendLies
import Derived.Lib.SlBytesConst
import Derived.Lib.SlBytesRow
import Derived.Laws.BytesString
import Derived.Maps.OwnSet
import Derived.Maps.Keyed
namespace Go.Proofs.Ytdjndeleafhglaa

/-- A number in k bytes, the greatest first. -/
def putB : Nat → Nat → List UInt8
  | 0, _ => []
  | k + 1, n => putB k (n / 256) ++ [UInt8.ofNat (n % 256)]
def getB (l : List UInt8) : Nat := l.foldl (fun n c => n * 256 + c.toNat) 0
def padB (l : List UInt8) (k : Nat) : List UInt8 := (l ++ List.replicate k 0).take k

theorem putB_length (k : Nat) : ∀ n, (putB k n).length = k := by
  induction k with
  | zero => intro n; rfl
  | succ k ih => intro n; simp [putB, ih]
theorem putB_cons (k : Nat) : ∀ n, putB (k + 1) n = UInt8.ofNat (n / 256 ^ k % 256) :: putB k n := by
  induction k with
  | zero => intro n; simp [putB]
  | succ k ih =>
    intro n
    rw [putB, ih, putB, Nat.div_div_eq_div_mul, Nat.pow_succ, Nat.mul_comm]
    rfl
theorem getB_snoc (l : List UInt8) (c : UInt8) : getB (l ++ [c]) = getB l * 256 + c.toNat := by simp [getB]
theorem getB_putB (k : Nat) : ∀ n, n < 256 ^ k → getB (putB k n) = n := by
  induction k with
  | zero => intro n h; simp at h; subst h; rfl
  | succ k ih =>
    intro n h
    rw [putB, getB_snoc, ih _ (by rw [Nat.pow_succ] at h; omega), UInt8.toNat_ofNat_of_lt' (by simp only [UInt8.size]; omega)]
    omega
theorem getB_lt (l : List UInt8) : getB l < 256 ^ l.length := by
  suffices h : ∀ m : List UInt8, getB m.reverse < 256 ^ m.length by
    have := h l.reverse
    simpa using this
  intro m
  induction m with
  | nil => simp [getB]
  | cons c m ih =>
    rw [List.reverse_cons, getB_snoc, List.length_cons, Nat.pow_succ]
    have := c.toNat_lt
    omega
theorem putB_getB (l : List UInt8) : putB l.length (getB l) = l := by
  suffices h : ∀ m : List UInt8, putB m.length (getB m.reverse) = m.reverse by
    have := h l.reverse
    simpa using this
  intro m
  induction m with
  | nil => rfl
  | cons c m ih =>
    rw [List.reverse_cons, getB_snoc, List.length_cons, putB]
    have := c.toNat_lt
    rw [show (getB m.reverse * 256 + c.toNat) / 256 = getB m.reverse by omega, ih, show (getB m.reverse * 256 + c.toNat) % 256 = c.toNat by omega]
    simp
theorem padB_length (l : List UInt8) (k : Nat) : (padB l k).length = k := by simp [padB]
theorem padB_le {l : List UInt8} {k : Nat} (h : l.length ≤ k) : padB l k = l ++ List.replicate (k - l.length) 0 := by
  rw [padB, List.take_append, List.take_of_length_le h, List.take_replicate, Nat.min_eq_left (by omega)]

/-- What stands in a sector. -/
structure Sec where
  kind : Int
  life : Nat
  seq : Int
  gen : Nat
  body : List UInt8
deriving DecidableEq

def secZero : Sec := ⟨0, 0, 0, 0, []⟩
/-- Why there may be no such sector (0: there may). -/
def rightS (p : Int) (x : Sec) : Int :=
  if x.kind < 1 ∨ 5 < x.kind ∨ p < 0 ∨ 1023 < p ∨ x.seq < 0 ∨ 1073741824 < x.seq then 2 else if 479 < x.body.length then 6 else 0
def headS (p : Int) (x : Sec) : List UInt8 := putB 1 x.kind.toNat ++ putB 2 p.toNat ++ putB 8 x.life ++ putB 4 x.seq.toNat ++ putB 8 x.gen ++ putB 2 x.body.length
def textS (p : Int) (x : Sec) : List UInt8 := padB (headS p x ++ x.body) 504
def readS (b : List UInt8) : Option Sec :=
  if 479 < getB ((b.drop 23).take 2) then none
  else some ⟨getB (b.take 1), getB ((b.drop 3).take 8), getB ((b.drop 11).take 4), getB ((b.drop 15).take 8), (b.drop 25).take (getB ((b.drop 23).take 2))⟩
/-- The sector of a text at a place. -/
def ofS (p : Int) (t : List UInt8) : Option Sec :=
  match readS t with
  | none => none
  | some x => if rightS p x = 0 ∧ textS p x = t then some x else none

theorem rightS_ok {p : Int} {x : Sec} : rightS p x = 0 ↔ 1 ≤ x.kind ∧ x.kind ≤ 5 ∧ 0 ≤ p ∧ p ≤ 1023 ∧ 0 ≤ x.seq ∧ x.seq ≤ 1073741824 ∧ x.body.length ≤ 479 := by
  unfold rightS
  split
  · simp; omega
  · split
    · simp; omega
    · simp; omega
theorem headS_length (p : Int) (x : Sec) : (headS p x).length = 25 := by simp [headS, putB_length]
theorem textS_length (p : Int) (x : Sec) : (textS p x).length = 504 := padB_length _ _
theorem textS_eq {p : Int} {x : Sec} (h : x.body.length ≤ 479) : textS p x = headS p x ++ (x.body ++ List.replicate (479 - x.body.length) 0) := by
  rw [textS, padB_le (by simp [headS_length]; omega), List.append_assoc]
  congr 3
  simp [headS_length]; omega

theorem part_of (a b c : List UInt8) (n m : Nat) (ha : a.length = n) (hb : b.length = m) : ((a ++ (b ++ c)).drop n).take m = b := by
  rw [List.drop_append, List.drop_of_length_le (by omega), ha, Nat.sub_self, List.drop_zero, List.nil_append, List.take_append, List.take_of_length_le (by omega), hb, Nat.sub_self, List.take_zero, List.append_nil]

/-- A text is read back. -/
theorem readS_textS {p : Int} {x : Sec} (h : rightS p x = 0) (hl : x.life < 18446744073709551616) (hg : x.gen < 18446744073709551616) (s : List UInt8) : readS (textS p x ++ s) = some x := by
  obtain ⟨h1, h2, h3, h4, h5, h6, h7⟩ := rightS_ok.1 h
  rw [textS_eq h7]
  have e1 : (headS p x ++ (x.body ++ List.replicate (479 - x.body.length) 0) ++ s).take 1 = putB 1 x.kind.toNat := by
    have := part_of [] (putB 1 x.kind.toNat) (putB 2 p.toNat ++ putB 8 x.life ++ putB 4 x.seq.toNat ++ putB 8 x.gen ++ putB 2 x.body.length ++ (x.body ++ List.replicate (479 - x.body.length) 0) ++ s) 0 1 rfl (putB_length _ _)
    simpa [headS, List.append_assoc] using this
  have e2 : ((headS p x ++ (x.body ++ List.replicate (479 - x.body.length) 0) ++ s).drop 3).take 8 = putB 8 x.life := by
    have := part_of (putB 1 x.kind.toNat ++ putB 2 p.toNat) (putB 8 x.life) (putB 4 x.seq.toNat ++ putB 8 x.gen ++ putB 2 x.body.length ++ (x.body ++ List.replicate (479 - x.body.length) 0) ++ s) 3 8 (by simp [putB_length]) (putB_length _ _)
    simpa only [headS, List.append_assoc] using this
  have e3 : ((headS p x ++ (x.body ++ List.replicate (479 - x.body.length) 0) ++ s).drop 11).take 4 = putB 4 x.seq.toNat := by
    have := part_of (putB 1 x.kind.toNat ++ putB 2 p.toNat ++ putB 8 x.life) (putB 4 x.seq.toNat) (putB 8 x.gen ++ putB 2 x.body.length ++ (x.body ++ List.replicate (479 - x.body.length) 0) ++ s) 11 4 (by simp [putB_length]) (putB_length _ _)
    simpa only [headS, List.append_assoc] using this
  have e4 : ((headS p x ++ (x.body ++ List.replicate (479 - x.body.length) 0) ++ s).drop 15).take 8 = putB 8 x.gen := by
    have := part_of (putB 1 x.kind.toNat ++ putB 2 p.toNat ++ putB 8 x.life ++ putB 4 x.seq.toNat) (putB 8 x.gen) (putB 2 x.body.length ++ (x.body ++ List.replicate (479 - x.body.length) 0) ++ s) 15 8 (by simp [putB_length]) (putB_length _ _)
    simpa only [headS, List.append_assoc] using this
  have e5 : ((headS p x ++ (x.body ++ List.replicate (479 - x.body.length) 0) ++ s).drop 23).take 2 = putB 2 x.body.length := by
    have := part_of (putB 1 x.kind.toNat ++ putB 2 p.toNat ++ putB 8 x.life ++ putB 4 x.seq.toNat ++ putB 8 x.gen) (putB 2 x.body.length) ((x.body ++ List.replicate (479 - x.body.length) 0) ++ s) 23 2 (by simp [putB_length]) (putB_length _ _)
    simpa only [headS, List.append_assoc] using this
  have e6 : ((headS p x ++ (x.body ++ List.replicate (479 - x.body.length) 0) ++ s).drop 25).take x.body.length = x.body := by
    have := part_of (headS p x) x.body (List.replicate (479 - x.body.length) 0 ++ s) 25 x.body.length (headS_length _ _) rfl
    simpa only [List.append_assoc] using this
  unfold readS
  rw [e5, getB_putB 2 _ (by omega), if_neg (by omega), e1, e2, e3, e4, e6, getB_putB 1 _ (by omega), getB_putB 8 _ (by omega), getB_putB 4 _ (by omega), getB_putB 8 _ (by omega)]
  obtain ⟨k, l, q, g, b⟩ := x
  simp only at *
  rw [show (k.toNat : Int) = k by omega, show (q.toNat : Int) = q by omega]
theorem readS_textS' {p : Int} {x : Sec} (h : rightS p x = 0) (hl : x.life < 18446744073709551616) (hg : x.gen < 18446744073709551616) : readS (textS p x) = some x := by
  have := readS_textS h hl hg []
  simpa using this
theorem ofS_textS {p : Int} {x : Sec} (h : rightS p x = 0) (hl : x.life < 18446744073709551616) (hg : x.gen < 18446744073709551616) : ofS p (textS p x) = some x := by
  unfold ofS
  rw [readS_textS' h hl hg]
  simp [h]
theorem ofS_some {p : Int} {t : List UInt8} {x : Sec} (h : ofS p t = some x) : rightS p x = 0 ∧ textS p x = t ∧ readS t = some x := by
  unfold ofS at h
  split at h
  · cases h
  · rename_i y hy
    split at h
    · rename_i hc
      obtain rfl := Option.some.inj h
      exact ⟨hc.1, hc.2, hy⟩
    · cases h
/-- What was written at a place is none at another. -/
theorem ofS_other {p q : Int} {x : Sec} (h : rightS p x = 0) (hpq : q ≠ p) : ofS q (textS p x) = none := by
  cases hq : ofS q (textS p x) with
  | none => rfl
  | some y =>
    exfalso
    obtain ⟨h1, h2, _⟩ := ofS_some hq
    obtain ⟨a1, a2, a3, a4, a5, a6, a7⟩ := rightS_ok.1 h
    obtain ⟨b1, b2, b3, b4, b5, b6, b7⟩ := rightS_ok.1 h1
    rw [textS_eq a7, textS_eq b7] at h2
    have e : ∀ (z : Sec) (r : Int) (c : List UInt8), ((headS r z ++ c).drop 1).take 2 = putB 2 r.toNat := fun z r c => by
      have := part_of (putB 1 z.kind.toNat) (putB 2 r.toNat) (putB 8 z.life ++ putB 4 z.seq.toNat ++ putB 8 z.gen ++ putB 2 z.body.length ++ c) 1 2 (putB_length _ _) (putB_length _ _)
      simpa only [headS, List.append_assoc] using this
    have := congrArg (fun l => getB ((l.drop 1).take 2)) h2
    simp only [e] at this
    rw [getB_putB 2 _ (by omega), getB_putB 2 _ (by omega)] at this
    omega
theorem readS_gen {b : List UInt8} {x : Sec} (h : readS b = some x) : x.life < 18446744073709551616 ∧ x.gen < 18446744073709551616 := by
  unfold readS at h
  split at h
  · cases h
  · obtain rfl := Option.some.inj h
    have lt : ∀ l : List UInt8, l.length ≤ 8 → getB l < 18446744073709551616 := fun l hl => by
      have h1 := getB_lt l
      have h2 : 256 ^ l.length ≤ 256 ^ 8 := Nat.pow_le_pow_right (by omega) hl
      omega
    exact ⟨lt _ (by simp; omega), lt _ (by simp; omega)⟩

/-- Sums of 32 bits. -/
def stepC (c : Nat) : Nat := if c % 2 = 1 then (c / 2) ^^^ 3988292384 else c / 2
def stepsC : Nat → Nat → Nat
  | 0, c => c
  | k + 1, c => stepC (stepsC k c)
def runC (c : Nat) (b : List UInt8) : Nat := b.foldl (fun c x => stepsC 8 (c ^^^ x.toNat)) c
def sumC (b : List UInt8) : Nat := runC 4294967295 b ^^^ 4294967295
def crcB (b : List UInt8) : List UInt8 := putB 8 (sumC b)
theorem stepC_lt {c : Nat} (h : c < 4294967296) : stepC c < 4294967296 := by
  unfold stepC
  split
  · exact Nat.xor_lt_two_pow (n := 32) (by omega) (by omega)
  · omega
theorem stepsC_lt {c : Nat} (h : c < 4294967296) : ∀ k, stepsC k c < 4294967296
  | 0 => h
  | k + 1 => stepC_lt (stepsC_lt h k)
theorem xor_lt32 {a b : Nat} (h : a < 4294967296) (h' : b < 4294967296) : a ^^^ b < 4294967296 := Nat.xor_lt_two_pow (n := 32) (by omega) (by omega)
theorem runC_lt (b : List UInt8) : ∀ {c : Nat}, c < 4294967296 → runC c b < 4294967296 := by
  induction b with
  | nil => intro c h; exact h
  | cons x b ih =>
    intro c h
    have := x.toNat_lt
    exact ih (stepsC_lt (xor_lt32 h (by omega)) 8)
theorem runC_snoc (c : Nat) (b : List UInt8) (x : UInt8) : runC c (b ++ [x]) = stepsC 8 (runC c b ^^^ x.toNat) := by simp [runC]
theorem sumC_lt (b : List UInt8) : sumC b < 4294967296 := xor_lt32 (runC_lt b (by omega)) (by omega)
theorem crcB_length (b : List UInt8) : (crcB b).length = 8 := putB_length _ _

def blankS : List UInt8 := List.replicate 512 0

end Go.Proofs.Ytdjndeleafhglaa
namespace Go.Proofs.Ytdjndeleafhglaa
open Go.RowKit

theorem putB_step (k j n : Nat) (h : j < k) : putB j (n / 256 ^ (k - j)) ++ [UInt8.ofNat (n / 256 ^ (k - 1 - j) % 256)] = putB (j + 1) (n / 256 ^ (k - (j + 1))) := by
  rw [putB, Nat.div_div_eq_div_mul, show k - (j + 1) = k - 1 - j by omega, show k - j = (k - 1 - j) + 1 by omega, Nat.pow_succ]

set_option maxRecDepth 100000 in
set_option maxHeartbeats 1000000 in
theorem NPut_any (n k : Nat) (w : World) (h1 : 1 ≤ k) (h8 : k ≤ 8) :
    Calls Try.prog 182 #[.int .u64 (n : Int), .int .i64 (k : Int)] w fun e w' => ∃ A c, e = .returned (.slice A k c) ∧ w'.ownsRow w.heap.size 5 1 (.slice A k c) k (bytesV (putB k n)) ∧ Below w.heap.size w w' := by
  have d1 : decide ((k : Int) < 1) = false := by simp; omega
  have d2 : decide ((8 : Int) < (k : Int)) = false := by simp; omega
  go_enter Try.func182, Try.ntmps182
  go_wp2
  go_step3
  go_wp2
  go_step3
  go_wp2
  go_loopw [4, 5] (fun v i wr => ∃ j : Nat, j ≤ k ∧ i = .int .i64 ((k : Int) - 1 - (j : Int)) ∧ wr.ownsRow w.heap.size 5 1 v j (bytesV (putB j (n / 256 ^ (k - j)))) ∧ Below w.heap.size w wr) (fun _ i _ => (intOf i + 1).toNat)
  case atStart => exact ⟨0, by omega, by simp, by simpa [putB, bytesV] using World.ownsRow_nil _ _ _ _, by ((repeat (first | (with_reducible exact Bnil _) | (with_reducible assumption) | (with_reducible refine Bset ?_ ?_ _) | (with_reducible refine Bnew ?_ _) | (with_reducible refine Bdrew ?_) | (with_reducible refine Bthen ?_ (by assumption)))); all_goals (simp; try omega))⟩
  case round =>
    obtain ⟨j, hj, rfl, hown, hbel⟩ := hrel
    by_cases hlt : j < k
    · have hi0 : ¬ ((k : Int) - 1 - (j : Int) < 0) := by omega
      obtain ⟨i0, hi, hz0, hz1, hz2⟩ := info_parts info_byte
      go_wp2_with (at_builtin; refine wpList_append_own _ rfl _ _ 41 rfl w.heap.size 5 i0 (.int .u8 0) 1 1 Try.underlying41 hi hz0 hz1 hz2 rfl (by decide) _ _ _ rfl (hown.alloc _) ⟨wr.heap.size, 0, none⟩ 1 1 [.int .u8 ((n : Int) / 2 ^ (8 * (k - 1 - j)) % 256)] rfl rfl (cell_one_new _ _ _) ?qc3 ?qc4 ?qc5 ?qc6 ?_)
      case qc3 => simp [Value.oneCell']
      case qc4 => unfold maxLen; omega
      case qc5 => omega
      case qc6 => have := hbel.size; simp; omega
      intro v' w1 hown' hgrow hne
      have hb1 : Below w.heap.size w w1 := (Bnew hbel _).grown hgrow (by have := hbel.size; simp; omega) (fun q hq => (hown.lt q hq).1)
      have e8 : (n : Int) / 2 ^ (8 * (k - 1 - j)) % 256 = ((UInt8.ofNat (n / 256 ^ (k - 1 - j) % 256)).toNat : Int) := by
        rw [UInt8.toNat_ofNat_of_lt' (by simp only [UInt8.size]; omega), show (256 : Nat) ^ (k - 1 - j) = 2 ^ (8 * (k - 1 - j)) by rw [Nat.pow_mul]]
        simp
      have hown2 : w1.ownsRow w.heap.size 5 1 v' (j + 1) (bytesV (putB (j + 1) (n / 256 ^ (k - (j + 1))))) := by
        rw [e8] at hown'
        rw [← putB_step k j n hlt]
        simpa [bytesV] using hown'
      clear hown' hgrow hne hown
      go_wp2_with fail
      go_roundw
      case rel => exact ⟨j + 1, by omega, by congr 1; omega, hown2, hb1⟩
      case measure => simp [intOf]; omega
    · obtain rfl : j = k := by omega
      have hi0 : (j : Int) - 1 - (j : Int) < 0 := by omega
      obtain ⟨g, cap, rfl⟩ : ∃ g cap, u4 = .slice g j cap := by
        rcases hown.2 with ⟨rfl, rfl⟩ | ⟨g, cap, _, rfl, _⟩
        · exact ⟨_, _, rfl⟩
        · exact ⟨_, _, rfl⟩
      rw [Nat.sub_self, Nat.pow_zero, Nat.div_one] at hown
      go_wp2_with fail
      try rw [Exit.noGoto_ret]
      go_ret
      exact ⟨_, _, rfl, hown, hbel⟩

theorem or_byte (a b : Nat) (ha : a < 72057594037927936) (hb : b < 256) : bits .or .u64 (IntKind.u64.wrap ((a : Int) * 256)) (IntKind.u64.wrap (b : Int)) = ((a * 256 + b : Nat) : Int) := by
  have w64 : ∀ n : Int, 0 ≤ n → n < 2 ^ 64 → IntKind.u64.wrap n = n := fun n h0 h1 => by
    simp [IntKind.wrap, IntKind.bits, IntKind.signed]; omega
  rw [w64 _ (by omega) (by omega), w64 _ (by omega) (by omega), bits_join .u64 64 (by decide) w64 8 _ _ (by omega) (by omega) (by omega) (by omega) (by omega) (by omega)]
  omega
theorem size_byte1 : (Try.prog.info? 5).map (·.size) = some 1 := by kernel_rfl

set_option maxRecDepth 100000 in
set_option maxHeartbeats 1000000 in
theorem NPad_any (A : Option Addr) (n c k : Nat) (l : List UInt8) (w : World) (hb : BytesAt w A n l) (h0 : 0 < n) (h1 : 1 ≤ k) (h2 : k ≤ 65536) :
    Calls Try.prog 149 #[.slice A n c, .int .i64 (k : Int)] w fun e w' => e = .returned (.slice (some ⟨w.heap.size, 0, none⟩) k k) ∧ w'.heap[w.heap.size]? = some (.cells (bytesV (padB l k)).toArray 5 (0, 0)) ∧ Below w.heap.size w w' := by
  obtain ⟨i0, hi, hz0, hz1, hz2⟩ := info_parts info_byte
  obtain ⟨g, o, rfl, hr⟩ := hb.at_ h0
  have hlen := hb.len
  have hmk := run_make (P := Try.prog) w 41 5 i0 _ Try.underlying41 hi hz0 .i64 .i64 (k : Int) (k : Int) (by omega) (by omega) (by rw [hz2]; omega) (by omega)
  rw [hz1, Int.toNat_natCast] at hmk
  have hC : madeCells (Value.cells (.int .u8 0)) (k * 1) = Array.replicate k (.int .u8 0) := by
    apply Array.ext_getElem?
    intro j
    by_cases hj : j < k
    · simp [madeCells, Value.cells, hj, Nat.mod_one]
    · rw [Array.getElem?_eq_none (by simp [madeCells]; omega), Array.getElem?_eq_none (by simp; omega)]
  rw [hC] at hmk
  have d1 : decide ((k : Int) < 1) = false := by simp; omega
  have d2 : decide ((65536 : Int) < (k : Int)) = false := by simp; omega
  have d3 : ¬ ((k : Int) < 1) := by omega
  have d4 : ¬ ((65536 : Int) < (k : Int)) := by omega
  have hgl : g < w.heap.size := rangeAt_lt hr (by rw [bytesV_length, hlen]; exact h0)
  have Hr := Lib.hid hr; clear hr hb
  have Hlen := Lib.hid hlen; clear hlen
  obtain ⟨Z, hZ⟩ : ∃ Z : Array Value, Z = Array.replicate k (.int .u8 0) := ⟨_, rfl⟩
  rw [← hZ] at hmk
  have hcs : (bytesV (l.take k)).length = Nat.min n k := by rw [bytesV_length, List.length_take, Hlen.out, Nat.min_comm]
  have hpad : (bytesV (l.take k) ++ Z.toList.drop (bytesV (l.take k)).length).toArray = (bytesV (padB l k)).toArray := by
    congr 1
    rw [bytesV_length, List.length_take, Hlen.out, padB, List.take_append, Hlen.out, List.take_replicate, hZ]
    simp [bytesV, List.map_replicate]
    omega
  have hnew : (w.alloc (.cells Z 5)).heap[w.heap.size]? = some (.cells Z 5 (0, 0)) := heap_alloc_new w _
  have hsrc : ∀ j v, (bytesV (l.take k))[j]? = some v → (w.alloc (.cells Z 5)).cell? ((⟨g, o, none⟩ : Addr).add j) = some v := fun j v hv => by
    rw [Addr.add_mid]
    have h2 : (bytesV l)[j]? = some v := by
      unfold bytesV at hv ⊢
      rw [List.map_take, List.getElem?_take] at hv
      split at hv
      · exact hv
      · cases hv
    exact ((Bbox w _).cell (p := ⟨g, o + j, none⟩) hgl).trans (Hr.out j v h2)
  have hfit : 0 + (bytesV (l.take k)).length ≤ Z.size := by rw [hcs, hZ, Array.size_replicate, Nat.zero_add]; exact Nat.min_le_right _ _
  have hrow : ∀ cs, ((w.alloc (.cells Z 5)).setRow w.heap.size cs).heap[w.heap.size]? = some (.cells cs 5 (0, 0)) := fun cs => setRow_heap _ _ _ _ _ _ hnew
  have hbel : ∀ cs, Below w.heap.size w ((w.alloc (.cells Z 5)).setRow w.heap.size cs) := fun cs => below_setRow (Bbox _ _) (Nat.le_refl _) _
  have Hrow := Lib.hid hrow; clear hrow
  have Hbel := Lib.hid hbel; clear hbel
  have Hcs := Lib.hid hcs; clear hcs
  have Hpad := Lib.hid hpad; clear hpad
  have Hnew := Lib.hid hnew; clear hnew
  have Hsrc := Lib.hid hsrc; clear hsrc
  have Hfit := Lib.hid hfit; clear hfit
  have HZ := Lib.hid hZ; clear hZ
  go_enter Try.func149, Try.ntmps149
  go_wp2_with (with_reducible refine wpList_copy_own rfl _ _ 41 41 rfl 5 Try.underlying41 size_byte1 w.heap.size 0 k k ⟨g, o, none⟩ n c rfl rfl Z 5 Hnew.out (bytesV (l.take k)) Hcs.out Hsrc.out Hfit.out (bytesV_one _) ?_)
  rw [Hpad.out]
  go_ret
  exact ⟨rfl, Hrow.out _, Hbel.out _⟩

set_option maxRecDepth 100000 in
set_option maxHeartbeats 1000000 in
theorem NGet_any (A : Option Addr) (n c : Nat) (l : List UInt8) (w : World) (hb : BytesAt w A n l) (h0 : 0 < n) (h8 : n ≤ 8) :
    Calls Try.prog 196 #[.slice A n c] w fun e w' => e = .returned (.tuple #[.int .u64 (getB l : Int), .int .i64 0]) ∧ w = w' := by
  obtain ⟨g, o, rfl, hr⟩ := hb.at_ h0
  have hlen := hb.len
  have d1 : ((n : Int) == 0) = false := by simp; omega
  have d2 : decide ((8 : Int) < (n : Int)) = false := by simp; omega
  have Hr := Lib.hid hr; clear hr hb
  have Hlen := Lib.hid hlen; clear hlen
  go_enter Try.func196, Try.ntmps196
  go_wp2_with fail
  go_loop [2, 16] (fun v i => ∃ j : Nat, j ≤ n ∧ i = .int .i64 (j : Int) ∧ v = .int .u64 (getB (l.take j) : Int)) (fun _ i => n - (intOf i).toNat)
  case atStart => exact ⟨0, by omega, rfl, rfl⟩
  case round =>
    obtain ⟨j, hj, rfl, rfl⟩ := hrel
    have hlt8 := getB_lt (l.take j)
    by_cases hlt : j < n
    · obtain ⟨x, hx⟩ : ∃ x, l[j]? = some x := ⟨_, List.getElem?_eq_getElem (by rw [Hlen.out]; exact hlt)⟩
      have hxa := Hr.out j (.int .u8 (x.toNat : Int)) (by simp [bytesV, hx])
      have hkn : (j : Int) < (n : Int) := by omega
      have hb8 : getB (l.take j) < 72057594037927936 := by
        rw [List.length_take, Hlen.out, Nat.min_eq_left (by omega)] at hlt8
        have : 256 ^ j ≤ 256 ^ 7 := Nat.pow_le_pow_right (by omega) (by omega)
        omega
      have hor := or_byte (getB (l.take j)) x.toNat hb8 x.toNat_lt
      have hsn : getB (l.take (j + 1)) = getB (l.take j) * 256 + x.toNat := by
        rw [List.take_add_one, hx]; exact getB_snoc _ _
      have Hor := Lib.hid hor; clear hor
      have Hsn := Lib.hid hsn; clear hsn
      have Hx := Lib.hid hx; clear hx hlt8 hb8
      go_wp2_with fail
      exact ⟨⟨j + 1, by omega, by go_num, by rw [Hor.out, Hsn.out]⟩, by simp [intOf]; omega⟩
    · obtain rfl : j = n := by omega
      have hkn : ¬ (j : Int) < (j : Int) := by omega
      have hl : l.take j = l := List.take_of_length_le (by rw [Hlen.out]; omega)
      have Hl := Lib.hid hl; clear hl
      go_wp2_with fail
      go_ret2
      exact ⟨by rw [show getB l = getB (l.take j) by rw [Hl.out]]; rfl, rfl⟩

end Go.Proofs.Ytdjndeleafhglaa
namespace Go.Proofs.Ytdjndeleafhglaa

/-- The sum of number n among all. -/
def markB (n : Nat) : List UInt8 := 255 :: 253 :: putB 6 n
theorem markB_length (n : Nat) : (markB n).length = 8 := by simp [markB, putB_length]
theorem markB_inj {n m : Nat} (hn : n < 281474976710656) (hm : m < 281474976710656) (h : markB n = markB m) : n = m := by
  have h2 : putB 6 n = putB 6 m := by simpa [markB] using h
  have h3 := congrArg getB h2
  rwa [getB_putB 6 n (by omega), getB_putB 6 m (by omega)] at h3
/-- What was summed, each once, in order: number of a text, and what was summed behind it. -/
def sumU (U : List (List UInt8)) (t : List UInt8) : Nat × List (List UInt8) := if t ∈ U then (U.idxOf t, U) else (U.length, U ++ [t])
def checkU (U : List (List UInt8)) (t s : List UInt8) : Bool := decide (t ∈ U) && decide (markB (U.idxOf t) = s)
theorem sumU_mem (U : List (List UInt8)) (t : List UInt8) : t ∈ (sumU U t).2 := by
  unfold sumU; split <;> simp [*]
theorem sumU_idx (U : List (List UInt8)) (t : List UInt8) : (sumU U t).2.idxOf t = (sumU U t).1 := by
  unfold sumU
  split
  · rfl
  · rename_i h
    simp [List.idxOf_append, h]
theorem sumU_lt (U : List (List UInt8)) (t : List UInt8) : (sumU U t).1 < (sumU U t).2.length := by
  rw [← sumU_idx]; exact List.idxOf_lt_length_of_mem (sumU_mem U t)
theorem sumU_pre (U : List (List UInt8)) (t : List UInt8) : U <+: (sumU U t).2 := by
  unfold sumU; split
  · exact List.prefix_rfl
  · exact List.prefix_append _ _
theorem sumU_length (U : List (List UInt8)) (t : List UInt8) : (sumU U t).2.length ≤ U.length + 1 := by
  unfold sumU; split <;> simp
theorem idxOf_pre {U V : List (List UInt8)} (h : U <+: V) {t : List UInt8} (ht : t ∈ U) : V.idxOf t = U.idxOf t := by
  obtain ⟨r, rfl⟩ := h
  simp [List.idxOf_append, ht]
theorem nodup_sumU {U : List (List UInt8)} (h : U.Nodup) (t : List UInt8) : (sumU U t).2.Nodup := by
  unfold sumU; split
  · exact h
  · rename_i hn
    rw [List.nodup_append]
    exact ⟨h, by simp, fun a ha b hb => by simp at hb; subst hb; rintro rfl; exact hn ha⟩

/-- The bytes of a sector, and what was summed behind it. -/
def encU (U : List (List UInt8)) (p : Int) (x : Sec) : List UInt8 × List (List UInt8) := (textS p x ++ markB (sumU U (textS p x)).1, (sumU U (textS p x)).2)
/-- What is read of bytes. -/
def decU (U : List (List UInt8)) (p : Int) (b : List UInt8) : Int × Sec :=
  if b.length ≠ 512 then (4, secZero) else if b = blankS then (7, secZero) else
    match ofS p (b.take 504) with
    | none => (11, secZero)
    | some x => if checkU U (b.take 504) (b.drop 504) = true then (0, x) else (11, secZero)
/-- What bytes are by real sums. -/
def decR (p : Int) (b : List UInt8) : Int × Sec :=
  if b.length ≠ 512 then (4, secZero) else if b = blankS then (7, secZero) else
    match ofS p (b.take 504) with
    | none => (11, secZero)
    | some x => if crcB (b.take 504) = b.drop 504 then (0, x) else (11, secZero)

theorem textS_head (p : Int) (x : Sec) (h : rightS p x = 0) (s : List UInt8) : textS p x ++ s ≠ blankS := by
  intro e
  obtain ⟨h1, h2, h3, h4, h5, h6, h7⟩ := rightS_ok.1 h
  have h8 := congrArg (fun l => getB (l.take 1)) e
  rw [textS_eq h7] at h8
  have e1 : (headS p x ++ (x.body ++ List.replicate (479 - x.body.length) 0) ++ s).take 1 = putB 1 x.kind.toNat := by
    have := part_of [] (putB 1 x.kind.toNat) (putB 2 p.toNat ++ putB 8 x.life ++ putB 4 x.seq.toNat ++ putB 8 x.gen ++ putB 2 x.body.length ++ (x.body ++ List.replicate (479 - x.body.length) 0) ++ s) 0 1 rfl (putB_length _ _)
    simpa [headS, List.append_assoc] using this
  simp only [e1] at h8
  rw [getB_putB 1 _ (by omega)] at h8
  have : getB (blankS.take 1) = 0 := by unfold blankS; rw [List.take_replicate]; rfl
  omega

theorem encU_length (U : List (List UInt8)) (p : Int) (x : Sec) : (encU U p x).1.length = 512 := by simp [encU, textS_length, markB_length]
theorem encU_take (U : List (List UInt8)) (p : Int) (x : Sec) : (encU U p x).1.take 504 = textS p x := by
  unfold encU
  exact List.take_left' (textS_length p x)
theorem encU_drop (U : List (List UInt8)) (p : Int) (x : Sec) : (encU U p x).1.drop 504 = markB (sumU U (textS p x)).1 := by
  unfold encU
  exact List.drop_left' (textS_length p x)
/-- What is written is read. -/
theorem decU_enc {U : List (List UInt8)} {p : Int} {x : Sec} (h : rightS p x = 0) (hl : x.life < 18446744073709551616) (hg : x.gen < 18446744073709551616) {V : List (List UInt8)} (hV : (encU U p x).2 <+: V) :
    decU V p (encU U p x).1 = (0, x) := by
  unfold decU
  rw [if_neg (by rw [encU_length]; simp), if_neg (show ¬ (encU U p x).1 = blankS from textS_head p x h _), encU_take, encU_drop, ofS_textS h hl hg]
  have hm := sumU_mem U (textS p x)
  have hV' : (sumU U (textS p x)).2 <+: V := hV
  have : checkU V (textS p x) (markB (sumU U (textS p x)).1) = true := by
    unfold checkU
    rw [idxOf_pre hV' hm, sumU_idx]
    simp [hV'.subset hm]
  simp only [this, if_true]
/-- .. at its place alone. -/
theorem decU_other {U : List (List UInt8)} {p q : Int} {x : Sec} (h : rightS p x = 0) (hpq : q ≠ p) (V : List (List UInt8)) : decU V q (encU U p x).1 = (11, secZero) := by
  unfold decU
  rw [if_neg (by rw [encU_length]; simp), if_neg (show ¬ (encU U p x).1 = blankS from textS_head p x h _), encU_take, ofS_other h hpq]
/-- What is read: its text was summed, and bears that sum. -/
theorem decU_ok {U : List (List UInt8)} {p : Int} {b : List UInt8} {x : Sec} (h : decU U p b = (0, x)) :
    b.length = 512 ∧ b ≠ blankS ∧ rightS p x = 0 ∧ b.take 504 = textS p x ∧ textS p x ∈ U ∧ b.drop 504 = markB (U.idxOf (textS p x)) := by
  unfold decU at h
  split at h
  · simp at h
  · split at h
    · simp at h
    · rename_i h1 h2
      split at h
      · simp at h
      · rename_i y hy
        split at h
        · rename_i hc
          obtain rfl : y = x := by simpa using h
          obtain ⟨a1, a2, a3⟩ := ofS_some hy
          unfold checkU at hc
          simp only [Bool.and_eq_true, decide_eq_true_eq] at hc
          rw [a2]
          exact ⟨by omega, h2, a1, rfl, hc.1, hc.2.symm⟩
        · simp at h
theorem decU_bytes {U : List (List UInt8)} {p : Int} {b : List UInt8} {x : Sec} (h : decU U p b = (0, x)) : b = textS p x ++ markB (U.idxOf (textS p x)) := by
  obtain ⟨_, _, _, h1, _, h2⟩ := decU_ok h
  rw [← h2, ← h1, List.take_append_drop]
theorem decU_cases (U : List (List UInt8)) (p : Int) (b : List UInt8) : (∃ x, decU U p b = (0, x)) ∨ ((decU U p b).1 ≠ 0 ∧ (decU U p b).2 = secZero) := by
  unfold decU
  split
  · exact .inr (by simp)
  · split
    · exact .inr (by simp)
    · split
      · exact .inr (by simp)
      · split
        · exact .inl ⟨_, rfl⟩
        · exact .inr (by simp)
theorem decR_cases (p : Int) (b : List UInt8) : (∃ x, decR p b = (0, x)) ∨ ((decR p b).1 ≠ 0 ∧ (decR p b).2 = secZero) := by
  unfold decR
  split
  · exact .inr (by simp)
  · split
    · exact .inr (by simp)
    · split
      · exact .inr (by simp)
      · split
        · exact .inl ⟨_, rfl⟩
        · exact .inr (by simp)
/-- What was read is read still, whatever was summed since. -/
theorem decU_mono {U V : List (List UInt8)} (hV : U <+: V) {p : Int} {b : List UInt8} {x : Sec} (h : decU U p b = (0, x)) : decU V p b = (0, x) := by
  obtain ⟨h1, h2, h3, h4, h5, h6⟩ := decU_ok h
  have hof : ofS p (b.take 504) = some x := by
    unfold decU at h
    rw [if_neg (by omega), if_neg h2] at h
    split at h
    · simp at h
    · rename_i y hy
      split at h
      · rw [hy]; simpa using h
      · simp at h
  unfold decU
  rw [if_neg (by omega), if_neg h2, hof]
  have : checkU V (b.take 504) (b.drop 504) = true := by
    unfold checkU
    rw [h4, h6, idxOf_pre hV h5]
    simp [hV.subset h5]
  simp only [this, if_true]

/-- A suite in plain words: none: the real one; else what was summed. -/
abbrev SU := Option (List (List UInt8))
def sumK : SU → List UInt8 → List UInt8 × SU
  | none, t => (crcB t, none)
  | some U, t => (markB (sumU U t).1, some (sumU U t).2)
def checkK : SU → List UInt8 → List UInt8 → Bool
  | none, t, s => decide (crcB t = s)
  | some U, t, s => checkU U t s
def encK (K : SU) (p : Int) (x : Sec) : List UInt8 × SU := (textS p x ++ (sumK K (textS p x)).1, (sumK K (textS p x)).2)
def decK (K : SU) (p : Int) (b : List UInt8) : Int × Sec :=
  if b.length ≠ 512 then (4, secZero) else if b = blankS then (7, secZero) else
    match ofS p (b.take 504) with
    | none => (11, secZero)
    | some x => if checkK K (b.take 504) (b.drop 504) = true then (0, x) else (11, secZero)
def roomK : SU → Nat
  | none => 0
  | some U => U.length
theorem sumK_length (K : SU) (t : List UInt8) : (sumK K t).1.length = 8 := by
  cases K with
  | none => exact crcB_length t
  | some U => exact markB_length _
theorem sumK_room (K : SU) (t : List UInt8) : roomK (sumK K t).2 ≤ roomK K + 1 := by
  cases K with
  | none => simp [sumK, roomK]
  | some U => exact sumU_length U t
theorem encK_some (U : List (List UInt8)) (p : Int) (x : Sec) : encK (some U) p x = ((encU U p x).1, some (encU U p x).2) := rfl
theorem decK_some (U : List (List UInt8)) (p : Int) (b : List UInt8) : decK (some U) p b = decU U p b := rfl
theorem decK_none (p : Int) (b : List UInt8) : decK none p b = decR p b := by
  unfold decK decR
  simp [checkK]
theorem encK_length (K : SU) (p : Int) (x : Sec) : (encK K p x).1.length = 512 := by simp [encK, textS_length, sumK_length]

end Go.Proofs.Ytdjndeleafhglaa
namespace Go.Proofs.Ytdjndeleafhglaa
open Go.RowKit

theorem Mod_any (i n : Int) (w : World) (h1 : 1 ≤ n) (h2 : n ≤ 1000000) :
    Calls Try.prog 52 #[.int .i64 i, .int .i64 n] w fun e w' => e = .returned (.int .i64 (i % n)) ∧ w = w' := by
  have hn0 : ¬ n = 0 := by omega
  have hn1 : ¬ n < 1 := by omega
  have b1 := Int.tmod_lt_of_pos i (show (0 : Int) < n by omega)
  have b2 : -n < i.tmod n := Int.lt_tmod_of_pos i (show (0 : Int) < n by omega)
  have h3 : i.tmod n = if 0 ≤ i ∨ n ∣ i then i % n else i % n - n := by
    rw [Int.tmod_eq_emod]
    split <;> simp <;> omega
  have h4 := Int.emod_nonneg i hn0
  have h5 := Int.emod_lt_of_pos i (show (0 : Int) < n by omega)
  obtain ⟨r, hr⟩ : ∃ r, r = i.tmod n := ⟨_, rfl⟩
  have hr' := hr.symm
  rw [← hr] at b1 b2 h3
  by_cases h0 : r < 0
  · have e1 : IntKind.i64.wrap (r + n) = r + n := IntWalk.i64_in _ (by omega)
    have e2 : r + n = i % n := by split at h3 <;> omega
    clear h3 hr
    go_enter Try.func52, Try.ntmps52
    go_wp2
    go_ret
    exact ⟨by first | rfl | exact ret_int e2, rfl⟩
  · have e2 : r = i % n := by split at h3 <;> omega
    clear h3 hr
    go_enter Try.func52, Try.ntmps52
    go_wp2
    go_ret
    exact ⟨by first | rfl | exact ret_int e2, rfl⟩

theorem BytesAt.of_own {w : World} {base n : Nat} {v : Value} {l : List UInt8} (h : w.ownsRow base 5 1 v n (bytesV l)) : ∃ A cap, v = .slice A n cap ∧ BytesAt w A n l := by
  have hl : l.length = n := by have := h.1; rw [bytesV_length] at this; omega
  rcases h.2 with ⟨rfl, rfl⟩ | ⟨g, cap, cur, rfl, _, hg, hc, _, hs, ht⟩
  · exact ⟨none, 0, rfl, hl, fun h => by omega⟩
  · refine ⟨_, cap, rfl, hl, fun _ => ⟨g, 0, rfl, fun j v hv => ?_⟩⟩
    have hj : j < n := by have := (List.getElem?_eq_some_iff.1 hv).1; rw [bytesV_length] at this; omega
    rw [Nat.zero_add, h.cellAt j (by omega), hv]
theorem BytesAt.of_block {w : World} {g : Nat} {t : TypeId} {l : List UInt8} (n : Nat) (hn : l.length = n) (h : w.heap[g]? = some (.cells (bytesV l).toArray t (0, 0))) : BytesAt w (some ⟨g, 0, none⟩) n l :=
  ⟨hn, fun _ => ⟨g, 0, rfl, fun j v hv => by rw [Nat.zero_add, cell_of_row _ _ _ _ _ _ h]; simpa using hv⟩⟩

set_option maxRecDepth 100000 in
set_option maxHeartbeats 1000000 in
theorem Join_any (ga oa n ca gb ob m cb : Nat) (la lb : List UInt8) (w : World) (ha : BytesAt w (some ⟨ga, oa, none⟩) n la) (hb : BytesAt w (some ⟨gb, ob, none⟩) m lb) (hn : n ≤ 1000000) (hm : m ≤ 1000000) :
    Calls Try.prog 56 #[.slice (some ⟨ga, oa, none⟩) n ca, .slice (some ⟨gb, ob, none⟩) m cb] w fun e w' => ∃ v', e = .returned v' ∧ w'.ownsRow w.heap.size 5 1 v' (n + m) (bytesV (la ++ lb)) ∧ Below w.heap.size w w' := by
  obtain ⟨i0, hi, hz0, hz1, hz2⟩ := info_parts info_byte
  have ra : ∀ j u, (bytesV la)[j]? = some u → w.cell? ((⟨ga, oa, none⟩ : Addr).add j) = some u := fun j u hj => by
    have hjl := (List.getElem?_eq_some_iff.1 hj).1
    rw [bytesV_length, ha.len] at hjl
    obtain ⟨g, o, he, hr⟩ := ha.at_ (by omega)
    cases he
    rw [Addr.add_mid]; exact hr j u hj
  have rb : ∀ j u, (bytesV lb)[j]? = some u → w.cell? ((⟨gb, ob, none⟩ : Addr).add j) = some u := fun j u hj => by
    have hjl := (List.getElem?_eq_some_iff.1 hj).1
    rw [bytesV_length, hb.len] at hjl
    obtain ⟨g, o, he, hr⟩ := hb.at_ (by omega)
    cases he
    rw [Addr.add_mid]; exact hr j u hj
  have hla := ha.len
  have hlb := hb.len
  have Ra := Lib.hid ra; clear ra
  have Rb := Lib.hid rb; clear rb
  have Hla := Lib.hid hla; clear hla
  have Hlb := Lib.hid hlb; clear hlb
  clear ha hb
  go_enter Try.func56, Try.ntmps56
  go_wp2_with (at_builtin; refine wpList_append_own _ rfl _ _ 41 rfl w.heap.size 5 i0 (.int .u8 0) 1 1 Try.underlying41 hi hz0 hz1 hz2 rfl (by decide) _ _ _ rfl (World.ownsRow_nil w _ _ _) ⟨ga, oa, none⟩ n ca (bytesV la) rfl ?qc1 ?qc2 ?qc3 ?qc4 ?qc5 ?qc6 ?_)
  case qc1 => rw [bytesV_length, Hla.out]; omega
  case qc2 => exact Ra.out
  case qc3 => exact bytesV_one la
  case qc4 => unfold maxLen; omega
  case qc5 => omega
  case qc6 => exact Nat.le_refl _
  intro v1 w1 hown1 hgrow1 hnil1
  have hown1' : w1.ownsRow w.heap.size 5 1 v1 n (bytesV la) := by simpa using hown1
  have hb1 : Below w.heap.size w w1 := (Bnil w).grown hgrow1 (Nat.le_refl _) (fun k hk => by simp [Value.ownBlock] at hk)
  have hz1' := hb1.size
  have rb1 : ∀ j u, (bytesV lb)[j]? = some u → w1.cell? ((⟨gb, ob, none⟩ : Addr).add j) = some u := fun j u hj => by
    have h0 := Rb.out j u hj
    rw [Addr.add_mid] at h0 ⊢
    exact (hb1.cell (p := ⟨gb, ob + j, none⟩) (World.block_lt_of_cell? w _ h0)).trans h0
  have Rb1 := Lib.hid rb1; clear rb1
  clear hown1 hgrow1 hnil1
  go_wp2_with (at_builtin; refine wpList_append_own _ rfl _ _ 41 rfl w.heap.size 5 i0 (.int .u8 0) 1 1 Try.underlying41 hi hz0 hz1 hz2 rfl (by decide) _ _ _ rfl hown1' ⟨gb, ob, none⟩ m cb (bytesV lb) rfl ?qd1 ?qd2 ?qd3 ?qd4 ?qd5 ?qd6 ?_)
  case qd1 => rw [bytesV_length, Hlb.out]; omega
  case qd2 => exact Rb1.out
  case qd3 => exact bytesV_one lb
  case qd4 => unfold maxLen; omega
  case qd5 => omega
  case qd6 => exact hz1'
  intro v2 w2 hown2 hgrow2 hnil2
  go_wp2
  go_ret
  refine ⟨v2, rfl, by rw [show bytesV (la ++ lb) = bytesV la ++ bytesV lb by simp [bytesV]]; exact hown2, ?_⟩
  exact hb1.grown hgrow2 hz1' (fun k hk => (hown1'.lt k hk).1)

set_option maxRecDepth 100000 in
set_option maxHeartbeats 1000000 in
theorem Same_any (A B : Option Addr) (n m ca cb : Nat) (la lb : List UInt8) (w : World) (ha : BytesAt w A n la) (hb : BytesAt w B m lb) (hn : n ≤ 1000000) :
    Calls Try.prog 54 #[.slice A n ca, .slice B m cb] w fun e w' => e = .returned (.bool (decide (la = lb))) ∧ Below w.heap.size w w' := by
  have hla := ha.len
  have hlb := hb.len
  by_cases hnm : n = m
  · subst hnm
    have Ha := Lib.hid ha; clear ha
    have Hb := Lib.hid hb; clear hb
    have Hla := Lib.hid hla; clear hla
    have Hlb := Lib.hid hlb; clear hlb
    go_enter Try.func54, Try.ntmps54
    go_wp2_with fail
    go_loopw [5] (fun i wr => ∃ k : Nat, k ≤ n ∧ i = .int .i64 k ∧ (∀ j, j < k → la[j]? = lb[j]?) ∧ Below w.heap.size w wr) (fun i _ => n - (intOf i).toNat)
    case atStart => exact ⟨0, by omega, rfl, (fun j hj => by omega), by ((repeat (first | (with_reducible exact Bnil _) | (with_reducible assumption) | (with_reducible refine Bset ?_ ?_ _) | (with_reducible refine Bnew ?_ _) | (with_reducible refine Bdrew ?_) | (with_reducible refine Bthen ?_ (by assumption)))); all_goals (simp; try omega))⟩
    case round =>
      obtain ⟨k, hk, rfl, hsame, hbel⟩ := hrel
      have Hsame := Lib.hid hsame; clear hsame
      by_cases hlt : k < n
      · obtain ⟨ga, oa, rfl, hra⟩ := Ha.out.at_ (by omega)
        obtain ⟨gb, ob, rfl, hrb⟩ := Hb.out.at_ (by omega)
        obtain ⟨x, hx⟩ : ∃ x, la[k]? = some x := ⟨_, List.getElem?_eq_getElem (by rw [Hla.out]; exact hlt)⟩
        obtain ⟨y, hy⟩ : ∃ y, lb[k]? = some y := ⟨_, List.getElem?_eq_getElem (by rw [Hlb.out]; exact hlt)⟩
        have hxa := hra k (.int .u8 (x.toNat : Int)) (by simp [bytesV, hx])
        have hyb := hrb k (.int .u8 (y.toNat : Int)) (by simp [bytesV, hy])
        have hgal := World.block_lt_of_cell? w _ hxa
        have hgbl := World.block_lt_of_cell? w _ hyb
        have ra := (hbel.cell (p := ⟨ga, oa + k, none⟩) hgal).trans hxa
        have rb := (hbel.cell (p := ⟨gb, ob + k, none⟩) hgbl).trans hyb
        have hzr := hbel.size
        have hgal2 : ga < wr.heap.size := Nat.lt_of_lt_of_le hgal hzr
        have hgbl2 : gb < wr.heap.size := Nat.lt_of_lt_of_le hgbl hzr
        have hkn : (k : Int) < (n : Int) := by omega
        have hcw := @BW.cell
        have Hx := Lib.hid hx; clear hx
        have Hy := Lib.hid hy; clear hy
        clear hra hrb hxa hyb
        by_cases hxy : x = y
        · subst hxy
          go_wp2_with fail
          refine wp_region_below (by kernel_rfl) (by kernel_rfl) ?_
          iterate 9 (quiet_step (fail))
          refine wpQuiet_nil ?_
          rintro _ ⟨z, rfl⟩
          go_wp2_with fail
          have hrel6 : (∀ j, j < k + 1 → la[j]? = lb[j]?) ∧ Below w.heap.size w z.w := ⟨fun j hj => by
            by_cases h : j < k
            · exact Hsame.out j h
            · obtain rfl : j = k := by omega
              exact Hx.out.trans Hy.out.symm, z.then hbel⟩
          go_roundw
          case rel => exact ⟨k + 1, by omega, by go_num, hrel6⟩
          case measure => simp [intOf]; omega
        · have hne : ¬ (x.toNat = y.toNat) := fun h => hxy (UInt8.toNat_inj.1 h)
          have hne2 : ¬ ((x.toNat : Int) = (y.toNat : Int)) := by omega
          go_wp2_with fail
          refine wp_region_below (by kernel_rfl) (by kernel_rfl) ?_
          iterate 9 (quiet_step (fail))
          refine wpQuiet_nil ?_
          rintro _ ⟨z, rfl⟩
          go_wp2_with fail
          have he2 : decide (la = lb) = false := by
            simp only [decide_eq_false_iff_not]
            intro e
            apply hxy
            have h1 := Hx.out
            rw [e, Hy.out] at h1
            exact (Option.some.inj h1).symm
          go_ret
          exact ⟨ret_bool he2.symm, z.then hbel⟩
      · have hkn : ¬ (k : Int) < (n : Int) := by omega
        have he : la = lb := List.ext_getElem? fun j => by
          by_cases hj : j < k
          · exact Hsame.out j hj
          · rw [List.getElem?_eq_none (by rw [Hla.out]; omega), List.getElem?_eq_none (by rw [Hlb.out]; omega)]
        have he2 : decide (la = lb) = true := by simpa using he
        have He2 := Lib.hid he2; clear he2 he
        go_wp2_with fail
        go_ret
        exact ⟨ret_bool He2.out.symm, hbel⟩
  · have he : decide (la = lb) = false := by
      simp only [decide_eq_false_iff_not]
      intro e
      rw [e] at hla
      omega
    have He := Lib.hid he; clear he
    have hne : ¬ (n : Int) = (m : Int) := by omega
    clear ha hb hla hlb
    go_enter Try.func54, Try.ntmps54
    go_wp2_with fail
    go_ret
    exact ⟨ret_bool He.out.symm, by ((repeat (first | (with_reducible exact Bnil _) | (with_reducible assumption) | (with_reducible refine Bset ?_ ?_ _) | (with_reducible refine Bnew ?_ _) | (with_reducible refine Bdrew ?_) | (with_reducible refine Bthen ?_ (by assumption)))); all_goals (simp; try omega))⟩

end Go.Proofs.Ytdjndeleafhglaa
namespace Go.Proofs.Ytdjndeleafhglaa
open Go.RowKit

theorem own_of_block {w : World} {g base : Nat} {l : List UInt8} (n : Nat) (hn : l.length = n) (h : w.heap[g]? = some (.cells (bytesV l).toArray 5 (0, 0))) (hg : base ≤ g) (hm : n ≤ 1000000000) :
    w.ownsRow base 5 1 (.slice (some ⟨g, 0, none⟩) n n) n (bytesV l) := by
  refine ⟨by rw [bytesV_length]; omega, .inr ⟨g, n, (bytesV l).toArray, rfl, hg, h, Nat.le_refl _, by unfold maxLen; omega, by simp [bytesV_length, hn], ?_⟩⟩
  rw [List.take_of_length_le]
  simp [bytesV_length, hn]
theorem BytesAt.own {w : World} {base n : Nat} {A : Option Addr} {c : Nat} {l : List UInt8} (h : w.ownsRow base 5 1 (.slice A n c) n (bytesV l)) : BytesAt w A n l := by
  obtain ⟨A', c', he, hb⟩ := BytesAt.of_own h
  cases he
  exact hb
theorem own_form {w : World} {base n : Nat} {v : Value} {e : TypeId} {size : Nat} {xs : List Value} (h : w.ownsRow base e size v n xs) : ∃ A c, v = .slice A n c := by
  rcases h.2 with ⟨rfl, rfl⟩ | ⟨g, cap, _, rfl, _⟩
  · exact ⟨_, _, rfl⟩
  · exact ⟨_, _, rfl⟩
theorem own_cap {w : World} {base n : Nat} {A : Option Addr} {c : Nat} {e : TypeId} {size : Nat} {xs : List Value} (h : w.ownsRow base e size (.slice A n c) n xs) : n ≤ c := by
  rcases h.2 with ⟨he, rfl⟩ | ⟨g, cap, _, he, _, _, hc, _⟩
  · omega
  · cases he; exact hc

theorem run_appB {w : World} (ty : TypeId) (base n : Nat) (v : Value) (l : List UInt8) (hown : w.ownsRow base 5 1 v n (bytesV l)) (A : Option Addr) (m c : Nat) (l2 : List UInt8) (hb : BytesAt w A m l2)
    (hsm : n + m ≤ 1000000000) (hbase : base ≤ w.heap.size) :
    ∃ A' c' w', (Builtin.append_ #[41, 41] ty #[v, .slice A m c]).run Try.prog w = .ok (.slice A' (n + m) c') w' ∧ w'.ownsRow base 5 1 (.slice A' (n + m) c') (n + m) (bytesV (l ++ l2)) ∧ w.grownBy w' v.ownBlock ∧
      ((Value.slice A' (n + m) c').ownBlock = v.ownBlock ∨ (Value.slice A' (n + m) c').ownBlock = some w.heap.size) := by
  obtain ⟨i0, hi, hz0, hz1, hz2⟩ := info_parts info_byte
  have hbl := hb.len
  have hno : A = none → m = 0 := fun e => by
    rcases Nat.eq_zero_or_pos m with h0 | h0
    · exact h0
    · obtain ⟨g, o, h, _⟩ := hb.at_ h0
      rw [e] at h; cases h
  rcases A with _ | ad
  · obtain rfl := hno rfl
    obtain rfl : l2 = [] := List.eq_nil_of_length_eq_zero hbl
    obtain ⟨A0, c0, rfl⟩ := own_form hown
    refine ⟨A0, c0, w, ?_, by simpa using hown, World.grownBy.refl w _, .inl rfl⟩
    rcases hown.2 with ⟨he, h0⟩ | ⟨g, cap, cur, he, _, _, hnc, _⟩
    · cases he
      simp [Builtin.append_, run_underlying Try.underlying41, sizeOf, typeInfo, hi, Builtin.lenOf, Builtin.firstCells]
    · cases he
      simp [Builtin.append_, run_underlying Try.underlying41, sizeOf, typeInfo, hi, Builtin.lenOf, Builtin.firstCells, hnc, storeCells]
  · have hcells : ∀ j u, (bytesV l2)[j]? = some u → w.cell? (ad.add j) = some u := by
      intro j u hu
      have hj : j < m := by have := (List.getElem?_eq_some_iff.1 hu).1; rw [bytesV_length] at this; omega
      obtain ⟨g, o, h, hr⟩ := hb.at_ (by omega)
      cases h
      rw [Addr.add_mid]
      exact hr j u hu
    obtain ⟨v', w', hrun, h2, h3, _, h5⟩ := run_append_own_at (P := Try.prog) w base 41 ty 5 i0 (.int .u8 0) 1 1 Try.underlying41 hi hz0 hz1 hz2 rfl (by decide) v n (bytesV l) hown ad m c (bytesV l2)
      (by rw [bytesV_length]; omega) hcells (bytesV_one l2) (by unfold maxLen; omega) (by omega) hbase
    obtain ⟨A', c', rfl⟩ := own_form h2
    refine ⟨A', c', w', hrun, by rw [show bytesV (l ++ l2) = bytesV l ++ bytesV l2 by simp [bytesV]]; exact h2, h3, h5⟩

/-- append of bytes onto a row of the call's own. -/
theorem wp_appB {w : World} {o : Oper} {a : Act} {K : Act → World → Prop} {Q : Exit → Act → World → Prop} (s x : Operand)
    (ho : o.op = .call { callee := .builtin .append, args := #[s, x], argTypes := #[41, 41] }) (base n : Nat) (v : Value) (hs : a.eval s = v) (l : List UInt8) (hown : w.ownsRow base 5 1 v n (bytesV l))
    (A : Option Addr) (m c : Nat) (hx : a.eval x = .slice A m c) (l2 : List UInt8) (hb : BytesAt w A m l2) (hsm : n + m ≤ 1000000000) (hbase : base ≤ w.heap.size)
    (h : ∀ A' c' w', w'.ownsRow base 5 1 (.slice A' (n + m) c') (n + m) (bytesV (l ++ l2)) → w.grownBy w' v.ownBlock →
      ((Value.slice A' (n + m) c').ownBlock = v.ownBlock ∨ (Value.slice A' (n + m) c').ownBlock = some w.heap.size) → K (a.put o.dst (.slice A' (n + m) c')) w') : o.wp Try.prog a w K Q := by
  obtain ⟨A', c', w', hrun, h2, h3, h4⟩ := run_appB o.type base n v l hown A m c l2 hb hsm hbase
  unfold Oper.wp execOp
  simp only [ho, resolve, invoke, builtin, Sem.run_bind, Sem.run_pure, Result.andThen_ok, List.map_toArray, List.map_cons, List.map_nil, hs, hx, hrun]
  exact h A' c' w' h2 h3 h4
theorem wpList_appB {w : World} {ops : Array Oper} {rest : List Oper} {o : Oper} {a : Act} {Q : Exit → Act → World → Prop} (hgd : o.guard = none) (s x : Operand)
    (ho : o.op = .call { callee := .builtin .append, args := #[s, x], argTypes := #[41, 41] }) (base n : Nat) (v : Value) (hs : a.eval s = v) (l : List UInt8) (hown : w.ownsRow base 5 1 v n (bytesV l))
    (A : Option Addr) (m c : Nat) (hx : a.eval x = .slice A m c) (l2 : List UInt8) (hb : BytesAt w A m l2) (hsm : n + m ≤ 1000000000) (hbase : base ≤ w.heap.size)
    (h : ∀ A' c' w', w'.ownsRow base 5 1 (.slice A' (n + m) c') (n + m) (bytesV (l ++ l2)) → w.grownBy w' v.ownBlock →
      ((Value.slice A' (n + m) c').ownBlock = v.ownBlock ∨ (Value.slice A' (n + m) c').ownBlock = some w.heap.size) → wpList Try.prog ops Q rest (a.put o.dst (.slice A' (n + m) c')) w') : wpList Try.prog ops Q (o :: rest) a w :=
  wpList_plain hgd fun _ hK => wp_appB s x ho base n v hs l hown A m c hx l2 hb hsm hbase fun A' c' w' h2 h3 h4 => hK _ _ (h A' c' w' h2 h3 h4)

theorem Below.app {w0 w w' : World} {base n : Nat} {v : Value} {e : TypeId} {size : Nat} {xs : List Value} (hb : Below base w0 w) (hown : w.ownsRow base e size v n xs) (hg : w.grownBy w' v.ownBlock) (hs : base ≤ w.heap.size) : Below base w0 w' :=
  hb.grown hg hs (fun k hk => (hown.lt k hk).1)
/-- The row was made since: what lay in w is as it was. -/
theorem Below.app2 {w0 w w' : World} {B base n : Nat} {v : Value} {e : TypeId} {size : Nat} {xs : List Value} (hb : Below B w0 w) (hown : w.ownsRow base e size v n xs) (hg : w.grownBy w' v.ownBlock) (hs : base ≤ w.heap.size) (hB : B ≤ base) : Below B w0 w' :=
  hb.grown hg (Nat.le_trans hB hs) (fun k hk => Nat.le_trans hB (hown.lt k hk).1)

/-- append onto bytes that fill their row (marked or not): they move to a new row. -/
theorem run_growB {w : World} (ty : TypeId) (g n : Nat) (l : List UInt8) (hl : l.length = n) (hcells : ∀ j u, (bytesV l)[j]? = some u → w.cell? ⟨g, j, none⟩ = some u) (A : Option Addr) (m c : Nat) (l2 : List UInt8) (hb : BytesAt w A m l2)
    (hm : 0 < m) (hsm : n + m ≤ 1000000000) :
    ∃ A' c' w', (Builtin.append_ #[41, 41] ty #[.slice (some ⟨g, 0, none⟩) n n, .slice A m c]).run Try.prog w = .ok (.slice A' (n + m) c') w' ∧ w'.ownsRow w.heap.size 5 1 (.slice A' (n + m) c') (n + m) (bytesV (l ++ l2)) ∧ Below w.heap.size w w' := by
  obtain ⟨i0, hi, hz0, hz1, hz2⟩ := info_parts info_byte
  have hbl := hb.len
  obtain ⟨g2, o2, rfl, hr2⟩ := hb.at_ hm
  have hnews : ∀ j u, (bytesV l2)[j]? = some u → w.cell? ((⟨g2, o2, none⟩ : Addr).add j) = some u := fun j u hu => by
    rw [Addr.add_mid]; exact hr2 j u hu
  have hbase : ∀ j u, (bytesV l)[j]? = some u → w.cell? ((⟨g, 0, none⟩ : Addr).add j) = some u := fun j u hu => by
    rw [Addr.add_mid, Nat.zero_add]; exact hcells j u hu
  have hr := run_append_grow (P := Try.prog) w 41 ty 5 i0 (.int .u8 0) Try.underlying41 hi hz0 ⟨g, 0, none⟩ n n (bytesV l) (by rw [bytesV_length, hz1]; omega) hbase ⟨g2, o2, none⟩ m c (bytesV l2) (by rw [bytesV_length, hz1]; omega) hnews
    (by omega) (by omega) (growslice_fits (by omega) (by rw [hz2]; omega))
  have hge := grownCap_ge w (n + m) n 5
  have hcm := grownCap_le_maxLen w (n + m) n 5 (by unfold maxLen; omega)
  refine ⟨_, _, _, hr, ⟨?_, .inr ⟨w.heap.size, _, _, rfl, Nat.le_refl _, heap_alloc_new w.drew _, hge, hcm, ?_, ?_⟩⟩, (Bdrew (Bnil w)).alloc (Nat.le_refl _) _⟩
  · simp [bytesV_length, hl, hbl]
  · simp only [Array.size_append, List.size_toArray, size_zeroCells, bytesV_length, hl, hbl, Value.cells, List.size_toArray, List.length_cons, List.length_nil]
    omega
  · simp only [Array.toList_append]
    rw [List.take_left' (by simp [bytesV_length, hl, hbl])]
    simp [bytesV]
theorem wpList_growB {w : World} {ops : Array Oper} {rest : List Oper} {o : Oper} {a : Act} {Q : Exit → Act → World → Prop} (hgd : o.guard = none) (s x : Operand)
    (ho : o.op = .call { callee := .builtin .append, args := #[s, x], argTypes := #[41, 41] }) (g n : Nat) (hs : a.eval s = .slice (some ⟨g, 0, none⟩) n n) (l : List UInt8) (hl : l.length = n)
    (hcells : ∀ j u, (bytesV l)[j]? = some u → w.cell? ⟨g, j, none⟩ = some u) (A : Option Addr) (m c : Nat) (hx : a.eval x = .slice A m c) (l2 : List UInt8) (hb : BytesAt w A m l2) (hm : 0 < m) (hsm : n + m ≤ 1000000000)
    (h : ∀ A' c' w', w'.ownsRow w.heap.size 5 1 (.slice A' (n + m) c') (n + m) (bytesV (l ++ l2)) → Below w.heap.size w w' → wpList Try.prog ops Q rest (a.put o.dst (.slice A' (n + m) c')) w') : wpList Try.prog ops Q (o :: rest) a w :=
  wpList_plain hgd fun K hK => by
    obtain ⟨A', c', w', hrun, h2, h3⟩ := run_growB o.type g n l hl hcells A m c l2 hb hm hsm
    unfold Oper.wp execOp
    simp only [ho, resolve, invoke, builtin, Sem.run_bind, Sem.run_pure, Result.andThen_ok, List.map_toArray, List.map_cons, List.map_nil, hs, hx, hrun]
    exact hK _ _ (h A' c' w' h2 h3)

end Go.Proofs.Ytdjndeleafhglaa
namespace Go.Proofs.Ytdjndeleafhglaa
open Go.RowKit

theorem xor_u32 (a b : Nat) (ha : a < 4294967296) (hb : b < 4294967296) : bits .xor .u32 (a : Int) (b : Int) = ((a ^^^ b : Nat) : Int) := by
  have h := xor_lt32 ha hb
  change IntKind.u32.wrap ((BitVec.ofInt 32 (a : Int) ^^^ BitVec.ofInt 32 (b : Int)).toNat : Int) = _
  rw [BitVec.toNat_xor, BitVec.ofInt_natCast, BitVec.ofInt_natCast, BitVec.toNat_ofNat, BitVec.toNat_ofNat, Nat.mod_eq_of_lt (show a < 2 ^ 32 by omega), Nat.mod_eq_of_lt (show b < 2 ^ 32 by omega), IntKind.wrap_u32]
  omega
theorem and_u32 (a b : Nat) (ha : a < 4294967296) (hb : b < 4294967296) : bits .and .u32 (a : Int) (b : Int) = ((a &&& b : Nat) : Int) :=
  (bits_nat .u32 32 (by decide) (fun n h0 h1 => by rw [IntKind.wrap_u32]; omega) a b (by omega) (by omega)).1

theorem step_bits (c : Nat) :
    (c / 2) ^^^ (3988292384 &&& ((4294967296 - (c &&& 1)) % 4294967296)) = stepC c := by
  unfold stepC
  rw [Nat.and_one_is_mod]
  by_cases h1 : c % 2 = 1
  · rw [if_pos h1, h1]
    rfl
  · rw [if_neg h1, show c % 2 = 0 by omega]
    simp

set_option maxRecDepth 100000 in
set_option maxHeartbeats 1000000 in
theorem CStep_any (c : Nat) (w : World) (h : c < 4294967296) :
    Calls Try.prog 202 #[.int .u32 (c : Int)] w fun e w' => e = .returned (.int .u32 (stepC c : Int)) ∧ w = w' := by
  have e1 : bits .and .u32 (c : Int) 1 = ((c &&& 1 : Nat) : Int) := and_u32 c 1 h (by decide)
  have e2 : (-((c &&& 1 : Nat) : Int)) % 4294967296 = (((4294967296 - (c &&& 1)) % 4294967296 : Nat) : Int) := by
    have := Nat.and_one_is_mod c
    omega
  have e3 : bits .and .u32 3988292384 (((4294967296 - (c &&& 1)) % 4294967296 : Nat) : Int) = ((3988292384 &&& ((4294967296 - (c &&& 1)) % 4294967296) : Nat) : Int) := and_u32 3988292384 _ (by decide) (Nat.mod_lt _ (by decide))
  have e4 : bits .xor .u32 ((c : Int) / 2) ((3988292384 &&& ((4294967296 - (c &&& 1)) % 4294967296) : Nat) : Int) = ((stepC c : Nat) : Int) := by
    have := xor_u32 (c / 2) (3988292384 &&& ((4294967296 - (c &&& 1)) % 4294967296)) (by omega) (Nat.lt_of_le_of_lt Nat.and_le_left (by decide))
    rw [step_bits] at this
    rw [← this]
    simp
  have e5 : bits .xor .u32 ((c : Int) / 2) (bits .and .u32 3988292384 (-bits .and .u32 (c : Int) 1 % 4294967296)) = ((stepC c : Nat) : Int) := by rw [e1, e2, e3, e4]
  have E5 := Lib.hid e5
  clear e1 e2 e3 e4 e5
  go_enter Try.func202, Try.ntmps202
  go_wp2_with fail
  go_ret
  exact ⟨ret_int E5.out, rfl⟩

theorem cell_of_one {w : World} {x : Nat} {v : Value} {t : TypeId} (h : w.heap[x]? = some (.cells #[v] t (0, 0))) : w.cell? ⟨x, 0, none⟩ = some v ∧ w.frozen? ⟨x, 0, none⟩ = false :=
  ⟨by rw [cell_of_row w x _ _ _ _ h]; rfl, by simp [World.frozen?, h]⟩
theorem one_set {w : World} {x : Nat} {v : Value} {t : TypeId} (h : w.heap[x]? = some (.cells #[v] t (0, 0))) (u : Value) : (w.setCell ⟨x, 0, none⟩ u).heap[x]? = some (.cells #[u] t (0, 0)) := blk_set h 0 u

set_option maxRecDepth 100000 in
set_option maxHeartbeats 1000000 in
theorem byByte_any (b : UInt8) (x c : Nat) (w : World) (hx : w.heap[x]? = some (.cells #[.int .u32 (c : Int)] 197 (0, 0))) (hc : c < 4294967296) :
    Calls Try.prog 201 #[.int .u8 (b.toNat : Int), .pointer (some ⟨x, 0, none⟩)] w fun e w' =>
      e = .returned (.tuple #[]) ∧ w'.heap[x]? = some (.cells #[.int .u32 (stepsC 8 (c ^^^ b.toNat) : Int)] 197 (0, 0)) ∧ Frame (fun k => k = x) w w' := by
  have hb := b.toNat_lt
  obtain ⟨hx0, hf0⟩ := cell_of_one hx
  have hxor : bits .xor .u32 (c : Int) (b.toNat : Int) = ((c ^^^ b.toNat : Nat) : Int) := xor_u32 c b.toNat hc (by omega)
  have hlt := xor_lt32 hc (show b.toNat < 4294967296 by omega)
  have h1 := one_set hx (.int .u32 ((c ^^^ b.toNat : Nat) : Int))
  generalize c ^^^ b.toNat = d at hxor hlt h1
  have Hxor := Lib.hid hxor; clear hxor
  have H1 := Lib.hid h1; clear h1
  have Hx := Lib.hid hx; clear hx
  go_enter Try.func201, Try.ntmps201
  go_wp2_with fail
  rw [Hxor.out]
  go_loopw [7] (fun i wr => ∃ j : Nat, j ≤ 8 ∧ i = .int .i64 (j : Int) ∧ wr.heap[x]? = some (.cells #[.int .u32 (stepsC j d : Int)] 197 (0, 0)) ∧ Frame (fun k => k = x) w wr) (fun i _ => 8 - (intOf i).toNat)
  case atStart => exact ⟨0, by omega, rfl, H1.out, Frame.setCell (S := fun k => k = x) (Frame.refl _ w) (.inl rfl) _⟩
  case round =>
    obtain ⟨j, hj, rfl, hr, hfr⟩ := hrel
    obtain ⟨hr0, hg0⟩ := cell_of_one hr
    have hsl := stepsC_lt hlt j
    by_cases hj8 : j < 8
    · have hj8' : (j : Int) < 8 := by omega
      have h2 := one_set hr (.int .u32 (stepsC (j + 1) d : Int))
      have H2 := Lib.hid h2; clear h2
      go_wp2_with (go_at_call 202; refine (CStep_any _ _ hsl).mono ?_; rintro e w1 ⟨rfl, rfl⟩)
      go_roundw
      case rel => exact ⟨j + 1, by omega, by go_num, H2.out, hfr.setCell (.inl rfl) _⟩
      case measure => simp [intOf]; omega
    · obtain rfl : j = 8 := by omega
      go_wp2_with fail
      go_end0
      exact ⟨rfl, hr, hfr⟩

theorem Frame.own {w w' : World} {x B : Nat} (h : Frame (fun k => k = x) w w') (hB : B ≤ x) (hB2 : B ≤ w.heap.size) : Below B w w' := h.below (fun k hk => by omega) hB2

set_option maxRecDepth 100000 in
set_option maxHeartbeats 1000000 in
theorem More_any (A : Option Addr) (n c : Nat) (l : List UInt8) (w : World) (hb : BytesAt w A n l) (hn : n ≤ 140737488351232) :
    Calls Try.prog 200 #[.int .u32 0, .slice A n c] w fun e w' => e = .returned (.int .u32 (sumC l : Int)) ∧ Below w.heap.size w w' := by
  have hlen := hb.len
  have hx0 : bits .xor .u32 0 4294967295 = ((4294967295 : Nat) : Int) := xor_u32 0 4294967295 (by decide) (by decide)
  have hxe : bits .xor .u32 (runC 4294967295 l : Int) 4294967295 = ((sumC l : Nat) : Int) := xor_u32 _ 4294967295 (runC_lt l (by decide)) (by decide)
  have hnew := heap_alloc_new w (.cells #[.int .u32 4294967295] 197)
  have Hxe := Lib.hid hxe; clear hxe
  have Hlen := Lib.hid hlen; clear hlen
  have Hb := Lib.hid hb; clear hb
  have Hnew := Lib.hid hnew; clear hnew
  go_enter Try.func200, Try.ntmps200
  go_wp2_with fail
  go_loopw [8, 14] (fun _ i wr => ∃ j : Nat, j ≤ n ∧ i = .int .i64 (j : Int) ∧ wr.heap[w.heap.size]? = some (.cells #[.int .u32 (runC 4294967295 (l.take j) : Int)] 197 (0, 0)) ∧ Below w.heap.size w wr) (fun _ i _ => n - (intOf i).toNat)
  case atStart => exact ⟨0, by omega, rfl, Hnew.out, by ((repeat (first | (with_reducible exact Bnil _) | (with_reducible assumption) | (with_reducible refine Bset ?_ ?_ _) | (with_reducible refine Bnew ?_ _) | (with_reducible refine Bdrew ?_) | (with_reducible refine Bthen ?_ (by assumption)))); all_goals (simp; try omega))⟩
  case round =>
    obtain ⟨j, hj, rfl, hr, hbel⟩ := hrel
    have hrl := runC_lt (l.take j) (c := 4294967295) (by decide)
    by_cases hlt : j < n
    · obtain ⟨g, o, rfl, hra⟩ := Hb.out.at_ (by omega)
      obtain ⟨y, hy⟩ : ∃ y, l[j]? = some y := ⟨_, List.getElem?_eq_getElem (by rw [Hlen.out]; exact hlt)⟩
      have hya := hra j (.int .u8 (y.toNat : Int)) (by simp [bytesV, hy])
      have hya2 := (hbel.cell (p := ⟨g, o + j, none⟩) (World.block_lt_of_cell? w _ hya)).trans hya
      have hsn : runC 4294967295 (l.take (j + 1)) = stepsC 8 (runC 4294967295 (l.take j) ^^^ y.toNat) := by rw [List.take_add_one, hy]; exact runC_snoc _ _ _
      have hkn : (j : Int) < (n : Int) := by omega
      have hz := hbel.size
      have Hsn := Lib.hid hsn; clear hsn
      have Hy := Lib.hid hy; clear hy hra hya
      go_wp2_with (go_at_call 201; refine (byByte_any _ _ _ _ hr hrl).mono ?_; rintro e w1 ⟨rfl, hr1, hf1⟩)
      go_roundw
      case rel => exact ⟨j + 1, by omega, by go_num, by rw [Hsn.out]; exact hr1, hbel.trans (hf1.own (Nat.le_refl _) hz)⟩
      case measure => simp [intOf]; omega
    · obtain rfl : j = n := by omega
      have hkn : ¬ (j : Int) < (j : Int) := by omega
      have hl : l.take j = l := List.take_of_length_le (by rw [Hlen.out]; omega)
      rw [hl] at hr
      obtain ⟨hr0, hg0⟩ := cell_of_one hr
      clear hl
      go_wp2_with fail
      go_ret
      exact ⟨ret_int Hxe.out, hbel⟩

set_option maxHeartbeats 1000000 in
theorem COf_any (A : Option Addr) (n c : Nat) (l : List UInt8) (w : World) (hb : BytesAt w A n l) (hn : n ≤ 140737488351232) :
    Calls Try.prog 198 #[.slice A n c] w fun e w' => e = .returned (.int .u32 (sumC l : Int)) ∧ Below w.heap.size w w' := by
  go_enter Try.func198, Try.ntmps198
  go_wp2_with (go_at_call 200; refine (More_any _ _ _ _ _ hb hn).mono ?_; rintro e w1 ⟨rfl, hb1⟩)
  go_ret
  exact ⟨rfl, hb1⟩

theorem wrap_u64_of (n : Nat) (h : n < 18446744073709551616) : IntKind.u64.wrap (n : Int) = (n : Int) := by
  simp [IntKind.wrap, IntKind.bits, IntKind.signed]; omega

set_option maxHeartbeats 1000000 in
theorem CBytes_any (A : Option Addr) (n c : Nat) (l : List UInt8) (w : World) (hb : BytesAt w A n l) (hn : n ≤ 140737488351232) :
    Calls Try.prog 185 #[.slice A n c] w fun e w' => ∃ A c, e = .returned (.slice A 8 c) ∧ w'.ownsRow w.heap.size 5 1 (.slice A 8 c) 8 (bytesV (crcB l)) ∧ Below w.heap.size w w' := by
  have hs := sumC_lt l
  go_enter Try.func185, Try.ntmps185
  go_wp2_with fail
  refine (COf_any _ _ _ _ _ hb hn).mono ?_; rintro e w1 ⟨rfl, hb1⟩
  go_wp2_with fail
  refine (NPut_any (sumC l) 8 _ (by decide) (by decide)).mono ?_; rintro e w2 ⟨A2, c2, rfl, hown, hb2⟩
  go_wp2_with fail
  go_ret
  exact ⟨_, _, rfl, own_mono hown hb1.size, Bthen hb1 hb2⟩

set_option maxRecDepth 100000 in
set_option maxHeartbeats 1000000 in
theorem mark_any (n : Nat) (w : World) (hn : n ≤ 1000000000) :
    Calls Try.prog 186 #[.int .i64 (n : Int)] w fun e w' => ∃ A c, e = .returned (.slice A 8 c) ∧ w'.ownsRow w.heap.size 5 1 (.slice A 8 c) 8 (bytesV (markB n)) ∧ Below w.heap.size w w' := by
  have kc := fun (W : World) (C : Array Value) (n c : Nat) => Lib.run_convert_bytes_const (P := Try.prog) W 41 5 C n c Try.underlying41 Try.underlying5
  go_enter Try.func186, Try.ntmps186
  go_wp2_with fail
  have hb0 : Below w.heap.size w (w.alloc (.cells #[.int .u8 255, .int .u8 253] 5 (2, 3))) := Bbox _ _
  have hz0 : w.heap.size < (w.alloc (.cells #[.int .u8 255, .int .u8 253] 5 (2, 3))).heap.size := by simp
  have hc0 : ∀ j u, (bytesV [255, 253])[j]? = some u → (w.alloc (.cells #[.int .u8 255, .int .u8 253] 5 (2, 3))).cell? ⟨w.heap.size, j, none⟩ = some u := fun j u hj => by
    rw [cell_of_row _ _ _ _ _ _ (heap_alloc_new w _), ← hj]
    simp [bytesV]
  generalize w.alloc (.cells #[.int .u8 255, .int .u8 253] 5 (2, 3)) = W1 at hb0 hz0 hc0 ⊢
  have Hc0 := Lib.hid hc0; clear hc0 kc
  refine (NPut_any n 6 W1 (by decide) (by decide)).mono ?_; rintro e w2 ⟨A2, c2, rfl, hown, hb2⟩
  have hc2 : ∀ j u, (bytesV [255, 253])[j]? = some u → w2.cell? ⟨w.heap.size, j, none⟩ = some u := fun j u hj => (hb2.cell (p := ⟨w.heap.size, j, none⟩) hz0).trans (Hc0.out j u hj)
  have hB2 := BytesAt.own hown
  have Hc2 := Lib.hid hc2; clear hc2
  have HB2 := Lib.hid hB2; clear hB2 hown
  have hz2 := hb2.size
  go_wp2_with (at_builtin; refine wpList_growB rfl _ _ rfl w.heap.size 2 rfl [255, 253] rfl Hc2.out A2 6 c2 rfl _ HB2.out (by decide) (by decide) ?_; intro A3 c3 w3 hown3 hb3)
  go_ret
  exact ⟨A3, c3, rfl, own_mono hown3 (by omega), Bthen (Bthen hb0 hb2) hb3⟩

set_option maxHeartbeats 400000 in
theorem none_any (u : Nat) (w : World) :
    Calls Try.prog 137 #[.pointer (some ⟨u, 0, none⟩)] w fun e w' => e = .returned (.bool false) ∧ w = w' := by
  go_enter Try.func137, Try.ntmps137
  go_wp2_with fail
  go_ret
  exact ⟨by first | rfl | simp, rfl⟩
set_option maxHeartbeats 400000 in
theorem none_nil (w : World) :
    Calls Try.prog 137 #[.pointer none] w fun e w' => e = .returned (.bool true) ∧ w = w' := by
  go_enter Try.func137, Try.ntmps137
  go_wp2_with fail
  go_ret
  exact ⟨by first | rfl | simp, rfl⟩

/-- A sector by value. -/
def secV (x : Sec) (A : Option Addr) (c : Nat) : Value := .agg #[.int .i64 x.kind, .int .u64 (x.life : Int), .int .i64 x.seq, .int .u64 (x.gen : Int), .slice A x.body.length c]

set_option maxHeartbeats 400000 in
theorem within_any (n a b : Int) (w : World) :
    Calls Try.prog 181 #[.int .i64 n, .int .i64 a, .int .i64 b] w fun e w' => e = .returned (.bool (decide (a ≤ n) && decide (n ≤ b))) ∧ w = w' := by
  by_cases h : a ≤ n
  all_goals by_cases h2 : n ≤ b
  all_goals
    go_enter Try.func181, Try.ntmps181
    go_wp2_with fail
    go_ret
    exact ⟨ret_bool (by simp; try omega), rfl⟩

set_option maxRecDepth 100000 in
set_option maxHeartbeats 1000000 in
theorem right_any (p : Int) (x : Sec) (A : Option Addr) (c : Nat) (w : World) :
    Calls Try.prog 139 #[.int .i64 p, secV x A c] w fun e w' => e = .returned (.int .i64 (rightS p x)) ∧ Below w.heap.size w w' := by
  obtain ⟨k, l, q, g, b⟩ := x
  unfold secV rightS
  simp only
  go_enter Try.func139, Try.ntmps139
  go_wp2_with (go_at_call 181; refine (within_any _ _ _ _).mono ?_; rintro e w1 ⟨rfl, rfl⟩)
  all_goals
    go_ret
    refine ⟨?_, by ((repeat (first | (with_reducible exact Bnil _) | (with_reducible assumption) | (with_reducible refine Bset ?_ ?_ _) | (with_reducible refine Bnew ?_ _) | (with_reducible refine Bdrew ?_) | (with_reducible refine Bthen ?_ (by assumption)))); all_goals (simp; try omega))⟩
    first
      | rfl
      | (exfalso; (try simp only [Bool.not_eq_true', Bool.not_eq_false', decide_eq_true_eq, decide_eq_false_iff_not] at *); omega)

end Go.Proofs.Ytdjndeleafhglaa
namespace Go.Proofs.Ytdjndeleafhglaa
open Go.RowKit

theorem conv_str {w : World} {A : Option Addr} {n c : Nat} {l : List UInt8} (h : BytesAt w A n l) (hn : 0 < n) : (convert 41 9 (.slice A n c)).run Try.prog w = .ok (.string ⟨l.toArray⟩) w := by
  obtain ⟨g, o, rfl, hr⟩ := h.at_ hn
  have hs : (⟨l.toArray⟩ : ByteArray).size = n := by simp [ByteArray.size, h.len]
  have hb : Lib.Bytes w g o ⟨l.toArray⟩ := fun i hi => by
    have hl : i < l.length := by simpa [ByteArray.size] using hi
    have := hr i (.int .u8 (l[i].toNat : Int)) (by simp [bytesV, hl])
    rw [this]
    rfl
  have := Lib.run_convert_whole (P := Try.prog) w 41 5 9 Try.underlying41 Try.underlying5 Try.underlying9 g o ⟨l.toArray⟩ hb c
  rw [hs] at this
  exact this
/-- .. also of no byte. -/
theorem conv_any {w : World} {A : Option Addr} {n c : Nat} {l : List UInt8} (h : BytesAt w A n l) : (convert 41 9 (.slice A n c)).run Try.prog w = .ok (.string ⟨l.toArray⟩) w := by
  rcases Nat.eq_zero_or_pos n with rfl | hn
  · obtain rfl : l = [] := List.eq_nil_of_length_eq_zero h.len
    rw [run_convert_bytes_string w 41 9 5 _ 0 c Try.underlying41 Try.underlying5 Try.underlying9]
    cases A <;> simp [Conv.bytesToString, loadCells]
    all_goals rfl
  · exact conv_str h hn
theorem BEqual_any (A B : Option Addr) (n m ca cb : Nat) (la lb : List UInt8) (w : World) (ha : BytesAt w A n la) (hb : BytesAt w B m lb) :
    Calls Try.prog 144 #[.slice A n ca, .slice B m cb] w fun e w' => e = .returned (.bool (decide (la = lb))) ∧ w = w' := by
  have ka := conv_any (c := ca) ha
  have kb := conv_any (c := cb) hb
  go_enter Try.func144, Try.ntmps144
  go_wp2_with fail
  go_ret
  exact ⟨ret_bool (by rw [Bool.eq_iff_iff]; simp), rfl⟩
theorem NSame_any (A B : Option Addr) (n m ca cb : Nat) (la lb : List UInt8) (w : World) (ha : BytesAt w A n la) (_hca : n ≤ ca) (hb : BytesAt w B m lb) (_hcb : m ≤ cb) (_hn : n ≤ 140737488351232) (_hm : m ≤ 140737488351232) :
    Calls Try.prog 140 #[.slice A n ca, .slice B m cb] w fun e w' => e = .returned (.bool (decide (la = lb))) ∧ Below w.heap.size w w' := by
  go_enter Try.func140, Try.ntmps140
  go_wp2_with fail
  refine (BEqual_any A B n m ca cb la lb w ha hb).mono ?_; rintro e w1 ⟨rfl, rfl⟩
  go_wp2_with fail
  go_ret
  exact ⟨rfl, Below.refl _ _⟩

set_option maxRecDepth 100000 in
theorem Blank_at (w : World) : Calls Try.prog 136 #[] w fun e w' => e = .returned (.slice (some ⟨w.heap.size, 0, none⟩) 512 512) ∧ w'.heap[w.heap.size]? = some (.cells (bytesV blankS).toArray 5 (0, 0)) ∧ Below w.heap.size w w' := by
  obtain ⟨i0, hi, hz0, hz1, hz2⟩ := info_parts info_byte
  have hmk := run_make (P := Try.prog) w 41 5 i0 _ Try.underlying41 hi hz0 .i64 .i64 512 512 (by omega) (by omega) (by rw [hz2]; omega) (by omega)
  rw [hz1] at hmk
  have hC : ∀ N : Nat, madeCells (Value.cells (.int .u8 0)) (N * 1) = (List.replicate N (Value.int .u8 0)).toArray := fun N => by
    apply Array.ext_getElem?
    intro j
    by_cases hj : j < N
    · simp [madeCells, Value.cells, hj, Nat.mod_one]
    · rw [Array.getElem?_eq_none (by simp [madeCells]; omega), Array.getElem?_eq_none (by simp; omega)]
  have hB : (List.replicate (Int.toNat 512) (Value.int .u8 0)).toArray = (bytesV blankS).toArray := by
    unfold blankS bytesV
    rw [List.map_replicate]
    rfl
  rw [hC, hB] at hmk
  clear hC hB hi hz0 hz1 hz2
  generalize (bytesV blankS).toArray = Z at hmk ⊢
  go_enter Try.func136, Try.ntmps136
  go_wp2_with fail
  go_ret
  exact ⟨rfl, heap_alloc_new w _, Bbox _ _⟩
theorem blankV_length : blankS.length = 512 := List.length_replicate
set_option maxRecDepth 100000 in
theorem IsBlank_any (A : Option Addr) (n c : Nat) (l : List UInt8) (w : World) (ha : BytesAt w A n l) (_hca : n ≤ c) (_hn : n ≤ 140737488351232) :
    Calls Try.prog 60 #[.slice A n c] w fun e w' => e = .returned (.bool (decide (l = blankS))) ∧ Below w.heap.size w w' := by
  go_enter Try.func60, Try.ntmps60
  go_wp2_with fail
  refine (Blank_at w).mono ?_; rintro e w1 ⟨rfl, hblk, hb1⟩
  have hb := BytesAt.of_block 512 blankV_length hblk
  have ha1 := ha.below hb1
  clear hblk
  go_wp2_with fail
  refine (BEqual_any A _ n 512 c 512 l blankS w1 ha1 hb).mono ?_; rintro e w2 ⟨rfl, rfl⟩
  go_wp2_with fail
  go_ret
  exact ⟨rfl, hb1⟩
theorem Blank_any (w : World) : Calls Try.prog 136 #[] w fun e w' => ∃ A c, e = .returned (.slice A 512 c) ∧ w'.ownsRow w.heap.size 5 1 (.slice A 512 c) 512 (bytesV blankS) ∧ Below w.heap.size w w' :=
  (Blank_at w).mono fun _ _ ⟨he, hb, hbl⟩ => ⟨_, _, he, own_of_block 512 blankV_length hb (Nat.le_refl _) (by decide), hbl⟩

end Go.Proofs.Ytdjndeleafhglaa
namespace Go.Proofs.Ytdjndeleafhglaa
open Go.RowKit

/-- What the map of sums says. -/
structure SaysU (D : DataW Nat) (U : List (List UInt8)) : Prop where
  tidy : Maps.Tidy D
  has : ∀ t, Maps.has D (.string t) = decide (t ∈ U)
  at_ : ∀ t, t ∈ U → ∀ z, D.atKey (.string t) z = .lit (.int .i64 (U.idxOf t : Int))
  size : Maps.size D = U.length
theorem SaysU.nil : SaysU (.map []) [] := ⟨Maps.tidy_empty, fun t => by simp [Maps.has_eq], fun t h => by simp at h, by simp [Maps.size_eq]⟩
theorem SaysU.put {D : DataW Nat} {U : List (List UInt8)} (h : SaysU D U) {t : List UInt8} (ht : t ∉ U) : SaysU (D.put (.string t) (.lit (.int .i64 (U.length : Int)))) (U ++ [t]) := by
  have hk : WideAt.IsKeyLit (.string t) := trivial
  refine ⟨h.tidy.put hk _, fun s => ?_, fun s hs z => ?_, ?_⟩
  · by_cases e : s = t
    · subst e
      rw [Maps.has_put_same h.tidy.isMap hk]
      simp
    · rw [Maps.has_put_other (by simpa using e), h.has]
      simp [e]
  · by_cases e : s = t
    · subst e
      rw [Maps.atKey_put_same h.tidy.isMap hk]
      simp [List.idxOf_append, ht]
    · have hs' : s ∈ U := by simpa [e] using hs
      rw [Maps.atKey_put_other (by simpa using e), h.at_ s hs']
      simp [List.idxOf_append, hs']
  · rw [Maps.size_put h.tidy, h.has, h.size]
    simp [ht]

def RealP (w : World) (u : Nat) : Prop := ∃ src, w.heap[u]? = some (.cells #[.pointer none, .map none, .pointer (some src)] 192 (0, 0))
/-- A suite of terms: what it has summed lies in a map. -/
def SymP (w : World) (u : Nat) (U : List (List UInt8)) (S : Nat → Prop) : Prop := ∃ tb m D, w.heap[u]? = some (.cells #[.pointer (some tb), .map (some m), .pointer none] 192 (0, 0)) ∧
  w.ownsMap Try.prog 9 (plainElem Try.prog 3) m U.length D ∧ SaysU D U ∧ S m ∧ U.length ≤ 1000000
def SuitP (w : World) (u : Nat) (K : SU) (S : Nat → Prop) : Prop := (match K with | none => RealP w u | some U => SymP w u U S) ∧ S u ∧ ∀ k, S k → k < w.heap.size
theorem SuitP.keep {w w' : World} {u : Nat} {K : SU} {S : Nat → Prop} (h : SuitP w u K S) (hz : w.heap.size ≤ w'.heap.size) (hb : ∀ k, S k → w'.heap[k]? = w.heap[k]?) : SuitP w' u K S := by
  obtain ⟨h1, h2, h3⟩ := h
  refine ⟨?_, h2, fun k hk => Nat.lt_of_lt_of_le (h3 k hk) hz⟩
  cases K with
  | none =>
    obtain ⟨src, hs⟩ := h1
    exact ⟨src, (hb u h2).trans hs⟩
  | some U =>
    obtain ⟨tb, m, D, hs, ⟨es, clock, hm, hrest⟩, hsay, hS, hU⟩ := h1
    exact ⟨tb, m, D, (hb u h2).trans hs, ⟨es, clock, (hb m hS).trans hm, hrest⟩, hsay, hS, hU⟩
theorem SuitP.below {w w' : World} {u : Nat} {K : SU} {S : Nat → Prop} (h : SuitP w u K S) (hb : Below w.heap.size w w') : SuitP w' u K S := h.keep hb.size fun k hk => hb.block k (h.2.2 k hk)

/-- The header's cells: is it a real one? -/
theorem SuitP.cells {w : World} {u : Nat} {K : SU} {S : Nat → Prop} (h : SuitP w u K S) : ∃ v0 v1 v2, w.heap[u]? = some (.cells #[.pointer v0, .map v1, .pointer v2] 192 (0, 0)) ∧ v2.isSome = K.isNone ∧ v0.isSome = K.isSome := by
  cases K with
  | none => obtain ⟨⟨src, hs⟩, _⟩ := h; exact ⟨_, _, _, hs, rfl, rfl⟩
  | some U => obtain ⟨⟨tb, m, D, hs, _⟩, _⟩ := h; exact ⟨_, _, _, hs, rfl, rfl⟩

section
variable {w : World} {u : Nat} {K : SU} {S : Nat → Prop}

set_option maxRecDepth 100000 in
set_option maxHeartbeats 400000 in
theorem SNone_any (h : SuitP w u K S) : Calls Try.prog 183 #[.pointer (some ⟨u, 0, none⟩)] w fun e w' => e = .returned (.bool false) ∧ w = w' := by
  obtain ⟨v0, v1, v2, hs, h2, h0⟩ := h.cells
  have c0 : w.cell? ⟨u, 0, none⟩ = some (.pointer v0) := by rw [cell_of_row _ _ _ _ _ _ hs]; rfl
  have c2 : w.cell? ⟨u, 2, none⟩ = some (.pointer v2) := by rw [cell_of_row _ _ _ _ _ _ hs]; rfl
  clear hs
  cases K with
  | none =>
    cases v2 with
    | none => simp at h2
    | some a2 =>
      clear h2 h0
      go_enter Try.func183, Try.ntmps183
      go_wp2_with fail
      go_ret
      exact ⟨by first | rfl | simp, rfl⟩
  | some U =>
    cases v2 with
    | some a2 => simp at h2
    | none =>
      cases v0 with
      | none => simp at h0
      | some a0 =>
        clear h2 h0
        go_enter Try.func183, Try.ntmps183
        go_wp2_with fail
        go_ret
        exact ⟨by first | rfl | simp, rfl⟩

set_option maxRecDepth 100000 in
set_option maxHeartbeats 400000 in
theorem SReal_any (h : SuitP w u K S) : Calls Try.prog 184 #[.pointer (some ⟨u, 0, none⟩)] w fun e w' => e = .returned (.bool K.isNone) ∧ w = w' := by
  obtain ⟨v0, v1, v2, hs, h2, h0⟩ := h.cells
  have c2 : w.cell? ⟨u, 2, none⟩ = some (.pointer v2) := by rw [cell_of_row _ _ _ _ _ _ hs]; rfl
  clear hs h0
  rw [← h2]
  cases v2 with
  | none =>
    clear h2
    go_enter Try.func184, Try.ntmps184
    go_wp2_with fail
    go_ret
    exact ⟨by first | rfl | simp, rfl⟩
  | some a =>
    clear h2
    go_enter Try.func184, Try.ntmps184
    go_wp2_with fail
    go_ret
    exact ⟨by first | rfl | simp, rfl⟩

theorem key_of (l : List UInt8) (h : l.length ≤ 1000000) : keyOf Try.prog 9 (.string ⟨l.toArray⟩) = some (.string l) := by
  have := WideMaps.keyOf_string_mk (P := Try.prog) Try.underlying9 (s := ⟨l.toArray⟩) (by simp [ByteArray.size]; unfold maxLen; omega)
  simpa using this
theorem zero_int (w : World) : (zeroValue 3).run Try.prog w = .ok (.int .i64 0) w := by kernel_rfl
def lookV (U : List (List UInt8)) (t : List UInt8) : Int := if t ∈ U then (U.idxOf t : Int) else 0
theorem run_look {w : World} {m : Nat} {D : DataW Nat} {U : List (List UInt8)} (hm : w.ownsMap Try.prog 9 (plainElem Try.prog 3) m U.length D) (hs : SaysU D U) (l : List UInt8) (hl : l.length ≤ 1000000) :
    (Instr.lookup 188 (.map (some m)) (.string ⟨l.toArray⟩) true).run Try.prog w = .ok (.tuple #[.int .i64 (lookV U l), .bool (decide (l ∈ U))]) w := by
  obtain ⟨v, ps, hr, hv⟩ := hm.look_ok (Maps.string_keyed Try.underlying9) Try.underlying188 (zero_int w) (plainElem_int Try.underlying3 (a := 0) (by decide)) (key_of l hl)
  obtain ⟨c, rfl, hc, _⟩ := plainElem_int_inv Try.underlying3 hv
  rw [hs.has] at hr
  have hat : D.atKey (.string l) (.lit (.int .i64 0)) = .lit (.int .i64 c) := congrArg Prod.fst hc
  by_cases ht : l ∈ U
  · rw [hs.at_ l ht] at hat
    have : c = (U.idxOf l : Int) := by simpa using hat.symm
    rw [hr, this, lookV, if_pos ht]
  · rw [Maps.atKey_of_not_has (by rw [hs.has]; simpa using ht)] at hat
    have : c = 0 := by simpa using hat.symm
    rw [hr, this, lookV, if_neg ht]

set_option maxRecDepth 100000 in
set_option maxHeartbeats 1000000 in
theorem Check_real (A B : Option Addr) (n c m d : Nat) (l s : List UInt8) (h : SuitP w u none S) (hb : BytesAt w A n l) (hs : BytesAt w B m s) (hmd : m ≤ d) (hn : n ≤ 1000000) (hm : m ≤ 1000000) :
    Calls Try.prog 142 #[.pointer (some ⟨u, 0, none⟩), .slice A n c, .slice B m d] w fun e w' => e = .returned (.bool (decide (crcB l = s))) ∧ Below w.heap.size w w' := by
  have Hb := Lib.hid hb; clear hb
  have Hs := Lib.hid hs; clear hs
  go_enter Try.func142, Try.ntmps142
  go_wp2_with fail
  refine (SNone_any h).mono ?_; rintro e w1 ⟨rfl, rfl⟩
  go_wp2_with fail
  refine (SReal_any h).mono ?_; rintro e w1 ⟨rfl, rfl⟩
  go_wp2_with fail
  refine (CBytes_any _ _ _ _ _ Hb.out (by omega)).mono ?_; rintro e w1 ⟨A1, c1, rfl, hown, hb1⟩
  have hB1 := BytesAt.own hown
  have hc1 := own_cap hown
  have hs1 := Hs.out.below hb1
  go_wp2_with fail
  refine (NSame_any _ _ 8 m c1 d _ _ w1 hB1 hc1 hs1 hmd (by omega) (by omega)).mono ?_; rintro e w2 ⟨rfl, hb2⟩
  go_wp2_with fail
  go_ret
  exact ⟨rfl, Bthen hb1 hb2⟩

set_option maxRecDepth 100000 in
set_option maxHeartbeats 1000000 in
theorem Check_sym (A B : Option Addr) (n c m d : Nat) (l s : List UInt8) (U : List (List UInt8)) (h : SuitP w u (some U) S) (hb : BytesAt w A n l) (hs : BytesAt w B m s) (hmd : m ≤ d) (h0 : 0 < n) (hn : n ≤ 1000000) (hm : m ≤ 1000000) :
    Calls Try.prog 142 #[.pointer (some ⟨u, 0, none⟩), .slice A n c, .slice B m d] w fun e w' => e = .returned (.bool (checkU U l s)) ∧ Below w.heap.size w w' := by
  have hx := h
  obtain ⟨⟨tb, mm, D, hd, hmap, hsay, hSm, hUl⟩, hSu, hSl⟩ := hx
  have hul := hSl u hSu
  have hml := hSl mm hSm
  have hlen := hb.len
  have c1 : w.cell? ⟨u, 1, none⟩ = some (.map (some mm)) := by rw [cell_of_row _ _ _ _ _ _ hd]; rfl
  have hs1 : ∀ x : InS (BelowW w), x.w.cell? ⟨u, 1, none⟩ = some (.map (some mm)) := fun x => (inB_cell x hul).trans c1
  have hs2 : ∀ x : InS (BelowW w), (convert 41 9 (.slice A n c)).run Try.prog x.w = .ok (.string ⟨l.toArray⟩) x.w := fun x => conv_str (hb.below x.h) h0
  have hs3 : ∀ x : InS (BelowW w), (Instr.lookup 188 (.map (some mm)) (.string ⟨l.toArray⟩) true).run Try.prog x.w = .ok (.tuple #[.int .i64 (lookV U l), .bool (decide (l ∈ U))]) x.w := fun x => by
    obtain ⟨es, clock, hm', hrest⟩ := hmap
    exact run_look ⟨es, clock, (x.h.block mm hml).trans hm', hrest⟩ hsay l (by omega)
  have Hb := Lib.hid hb; clear hb
  have Hs := Lib.hid hs; clear hs
  clear hd hmap hsay
  by_cases hin : l ∈ U
  · have hlt : U.idxOf l < U.length := List.idxOf_lt_length_of_mem hin
    have hck : checkU U l s = decide (markB (U.idxOf l) = s) := by unfold checkU; simp [hin]
    simp only [lookV, hin, if_true, decide_true] at hs3
    generalize U.idxOf l = k at hlt hck hs3
    have Hck := Lib.hid hck; clear hck
    go_enter Try.func142, Try.ntmps142
    go_wp2_with fail
    refine (SNone_any h).mono ?_; rintro e w1 ⟨rfl, rfl⟩
    go_wp2_with fail
    refine (SReal_any h).mono ?_; rintro e w1 ⟨rfl, rfl⟩
    go_wp2_with fail
    refine wp_region_in (BelowW w) [(0, true), (1, true), (2, true), (3, true), (4, true), (5, true), (6, true), (7, true), (8, true), (9, true), (10, true), (11, true), (12, true)] (by kernel_rfl) (by kernel_rfl) (fun _ _ _ _ _ h => h) (inB_drew _) (fun hne => ?_)
    simp only [permOps, List.map_cons, List.map_nil, List.getD_cons_zero, List.getD_cons_succ]
    (repeat ((with_reducible refine wpPerm_F ?_); intro K hK; go_simp; refine hK _ _ ?_; clear hK K))
    refine wpPerm_nil ?_
    go_wp2_with fail
    refine (mark_any k _ (by omega)).mono ?_; rintro e w1 ⟨A1, c1, rfl, hown, hb1⟩
    have hb1' : Below w.heap.size w w1 := Bthen (Bdrew (Bnil w)) hb1
    have hB1 := BytesAt.own hown
    have hc1 := own_cap hown
    have hs1 := Hs.out.below hb1'
    go_wp2_with fail
    refine (NSame_any _ _ 8 m c1 d _ _ w1 hB1 hc1 hs1 hmd (by omega) (by omega)).mono ?_; rintro e w2 ⟨rfl, hb2⟩
    go_wp2_with fail
    go_ret
    exact ⟨ret_bool Hck.out.symm, Bthen hb1' hb2⟩
  · have hck : checkU U l s = false := by unfold checkU; simp [hin]
    simp only [lookV, hin, if_false, decide_false] at hs3
    have Hck := Lib.hid hck; clear hck
    go_enter Try.func142, Try.ntmps142
    go_wp2_with fail
    refine (SNone_any h).mono ?_; rintro e w1 ⟨rfl, rfl⟩
    go_wp2_with fail
    refine (SReal_any h).mono ?_; rintro e w1 ⟨rfl, rfl⟩
    go_wp2_with fail
    refine wp_region_in (BelowW w) [(0, true), (1, true), (2, true), (3, true), (4, true), (5, true), (6, true), (7, true), (8, true), (9, true), (10, true), (11, true), (12, true)] (by kernel_rfl) (by kernel_rfl) (fun _ _ _ _ _ h => h) (inB_drew _) (fun hne => ?_)
    simp only [permOps, List.map_cons, List.map_nil, List.getD_cons_zero, List.getD_cons_succ]
    (repeat ((with_reducible refine wpPerm_F ?_); intro K hK; go_simp; refine hK _ _ ?_; clear hK K))
    refine wpPerm_nil ?_
    go_wp2_with fail
    go_ret
    exact ⟨ret_bool Hck.out.symm, Bdrew (Bnil w)⟩

theorem Check_any (A B : Option Addr) (n c m d : Nat) (l s : List UInt8) (h : SuitP w u K S) (hb : BytesAt w A n l) (hs : BytesAt w B m s) (hmd : m ≤ d) (h0 : 0 < n) (hn : n ≤ 1000000) (hm : m ≤ 1000000) :
    Calls Try.prog 142 #[.pointer (some ⟨u, 0, none⟩), .slice A n c, .slice B m d] w fun e w' => e = .returned (.bool (checkK K l s)) ∧ Below w.heap.size w w' := by
  cases K with
  | none => exact Check_real A B n c m d l s h hb hs hmd hn hm
  | some U => exact Check_sym A B n c m d l s U h hb hs hmd h0 hn hm

set_option maxRecDepth 100000 in
set_option maxHeartbeats 1000000 in
theorem Sum_real (A : Option Addr) (n c : Nat) (l : List UInt8) (h : SuitP w u none S) (hb : BytesAt w A n l) (hn : n ≤ 1000000) :
    Calls Try.prog 150 #[.pointer (some ⟨u, 0, none⟩), .slice A n c] w fun e w' => ∃ A' c', e = .returned (.slice A' 8 c') ∧ w'.ownsRow w.heap.size 5 1 (.slice A' 8 c') 8 (bytesV (crcB l)) ∧ Below w.heap.size w w' := by
  have Hb := Lib.hid hb; clear hb
  go_enter Try.func150, Try.ntmps150
  go_wp2_with fail
  refine (SNone_any h).mono ?_; rintro e w1 ⟨rfl, rfl⟩
  go_wp2_with fail
  refine (SReal_any h).mono ?_; rintro e w1 ⟨rfl, rfl⟩
  go_wp2_with fail
  refine (CBytes_any _ _ _ _ _ Hb.out (by omega)).mono ?_; rintro e w1 ⟨A1, c1, rfl, hown, hb1⟩
  go_wp2_with fail
  go_ret
  exact ⟨_, _, rfl, hown, hb1⟩

theorem wp_mapUpdate {P : Program} {w : World} {o : Oper} {a : Act} {K : Act → World → Prop} {Q : Exit → Act → World → Prop} (t : TypeId) (m x v : Operand) (ho : o.op = .mapUpdate t m x v) (vm vx vv : Value) (hm : a.eval m = vm) (hx : a.eval x = vx) (hv : a.eval v = vv)
    (w' : World) (hr : (Instr.mapUpdate t vm vx vv).run P w = .ok () w') (h : K (a.put o.dst undef) w') : o.wp P a w K Q := by
  unfold Oper.wp
  simp [execOp, ho, hm, hx, hv, hr, Result.andThen]
  exact h
theorem okVal_len {P : Program} {H : Type} {k e t : TypeId} {R : Value → Option (DataW H × List MemPlace)} {n m : Nat} {D : DataW H} (ht : P.underlying t = some (.map k e)) {w : World} (hm : w.ownsMap P k R m n D) (ty : TypeId) :
    (Builtin.len_ #[t] ty #[.map (some m)]).run P w = .ok (.int .i64 (Maps.size D)) w := hm.len ht ty

set_option maxRecDepth 100000 in
set_option maxHeartbeats 1000000 in
theorem Sum_sym (A : Option Addr) (n c : Nat) (l : List UInt8) (U : List (List UInt8)) (h : SuitP w u (some U) S) (hb : BytesAt w A n l) (h0 : 0 < n) (hn : n ≤ 1000000) (hU : U.length + 1 ≤ 1000000) :
    Calls Try.prog 150 #[.pointer (some ⟨u, 0, none⟩), .slice A n c] w fun e w' => ∃ A' c', e = .returned (.slice A' 8 c') ∧ w'.ownsRow w.heap.size 5 1 (.slice A' 8 c') 8 (bytesV (markB (sumU U l).1)) ∧
      SuitP w' u (some (sumU U l).2) S ∧ Frame S w w' := by
  have hx := h
  obtain ⟨⟨tb, mm, D, hd, hmap, hsay, hSm, hUl⟩, hSu, hSl⟩ := hx
  have hul := hSl u hSu
  have hml := hSl mm hSm
  have hlen := hb.len
  have c1 : w.cell? ⟨u, 1, none⟩ = some (.map (some mm)) := by rw [cell_of_row _ _ _ _ _ _ hd]; rfl
  have hs1 : ∀ x : InS (BelowW w), x.w.cell? ⟨u, 1, none⟩ = some (.map (some mm)) := fun x => (inB_cell x hul).trans c1
  have hs2 : ∀ x : InS (BelowW w), (convert 41 9 (.slice A n c)).run Try.prog x.w = .ok (.string ⟨l.toArray⟩) x.w := fun x => conv_str (hb.below x.h) h0
  have hs3 : ∀ x : InS (BelowW w), (Instr.lookup 188 (.map (some mm)) (.string ⟨l.toArray⟩) true).run Try.prog x.w = .ok (.tuple #[.int .i64 (lookV U l), .bool (decide (l ∈ U))]) x.w := fun x => by
    obtain ⟨es, clock, hm', hrest⟩ := hmap
    exact run_look ⟨es, clock, (x.h.block mm hml).trans hm', hrest⟩ hsay l (by omega)
  have Hb := Lib.hid hb; clear hb
  by_cases hin : l ∈ U
  · have hlt : U.idxOf l < U.length := List.idxOf_lt_length_of_mem hin
    have hck : sumU U l = (U.idxOf l, U) := by unfold sumU; simp [hin]
    rw [hck]
    simp only [lookV, hin, if_true, decide_true] at hs3
    clear hd hmap hsay hck
    generalize U.idxOf l = k at hlt hs3 ⊢
    go_enter Try.func150, Try.ntmps150
    go_wp2_with fail
    refine (SNone_any h).mono ?_; rintro e w1 ⟨rfl, rfl⟩
    go_wp2_with fail
    refine (SReal_any h).mono ?_; rintro e w1 ⟨rfl, rfl⟩
    go_wp2_with fail
    refine wp_region_in (BelowW w) [(0, true), (1, true), (2, true), (3, true), (4, true), (5, true), (6, true), (7, true), (8, true), (9, true), (10, true), (11, true), (12, true)] (by kernel_rfl) (by kernel_rfl) (fun _ _ _ _ _ h => h) (inB_drew _) (fun hne => ?_)
    simp only [permOps, List.map_cons, List.map_nil, List.getD_cons_zero, List.getD_cons_succ]
    (repeat ((with_reducible refine wpPerm_F ?_); intro K hK; go_simp; refine hK _ _ ?_; clear hK K))
    refine wpPerm_nil ?_
    go_wp2_with fail
    refine (mark_any k _ (by omega)).mono ?_; rintro e w1 ⟨A1, c1, rfl, hown, hb1⟩
    have hb1' : Below w.heap.size w w1 := Bthen (Bdrew (Bnil w)) hb1
    go_wp2_with fail
    go_ret
    exact ⟨_, _, rfl, hown, h.below hb1', Frame.of_below hb1'⟩
  · have hck : sumU U l = (U.length, U ++ [l]) := by unfold sumU; simp [hin]
    rw [hck]
    simp only [lookV, hin, if_false, decide_false] at hs3
    have hsz : Maps.size D = U.length := hsay.size
    have Hsay := Lib.hid hsay; clear hsay
    have Hd := Lib.hid hd; clear hd
    have Hmap := Lib.hid hmap; clear hmap
    clear hck
    have hlen2 : (Builtin.len_ #[188] 3 #[.map (some mm)]).run Try.prog w.drew = .ok (.int .i64 (U.length : Int)) w.drew := by
      rw [← hsz]; exact World.ownsMap.len (w := w.drew) Hmap.out.drew Try.underlying188 _
    have Hsz := Lib.hid hsz; clear hsz
    go_enter Try.func150, Try.ntmps150
    go_wp2_with fail
    refine (SNone_any h).mono ?_; rintro e w1 ⟨rfl, rfl⟩
    go_wp2_with fail
    refine (SReal_any h).mono ?_; rintro e w1 ⟨rfl, rfl⟩
    go_wp2_with fail
    refine wp_region_in (BelowW w) [(0, true), (1, true), (2, true), (3, true), (4, true), (5, true), (6, true), (7, true), (8, true), (9, true), (10, true), (11, true), (12, true)] (by kernel_rfl) (by kernel_rfl) (fun _ _ _ _ _ h => h) (inB_drew _) (fun hne => ?_)
    simp only [permOps, List.map_cons, List.map_nil, List.getD_cons_zero, List.getD_cons_succ]
    (repeat ((with_reducible refine wpPerm_F ?_); intro K hK; go_simp; refine hK _ _ ?_; clear hK K))
    refine wpPerm_nil ?_
    go_wp2_with fail
    obtain ⟨W2, hrun, hmap2, hgrow⟩ := World.ownsMap.update (w := w.drew.drew) Hmap.out.drew.drew (Maps.string_keyed Try.underlying9) Try.underlying188 (by unfold maxLen; omega) (val := .int .i64 (U.length : Int)) (key_of l (by omega)) (plainElem_int Try.underlying3 (by simp [Lit.wf, IntKind.min, IntKind.max, IntKind.bits, IntKind.signed]; omega))
    have Hrun := Lib.hid hrun; clear hrun
    have hs1' := hs1
    refine wp_region_in (BelowW w) [(0, true), (1, true), (2, true), (3, true), (4, true), (5, true), (6, true), (7, true), (8, false)] (by kernel_rfl) (by kernel_rfl) (fun _ _ _ _ _ h => h) ((Bdrew (Bdrew (Bnil w)))) (fun hne => ?_)
    simp only [permOps, List.map_cons, List.map_nil, List.getD_cons_zero, List.getD_cons_succ]
    (repeat ((with_reducible refine wpPerm_F ?_); intro K hK; go_simp; refine hK _ _ ?_; clear hK K))
    (with_reducible refine wpPerm_L rfl ?_); intro K hK
    refine wp_mapUpdate 188 _ _ _ rfl _ _ _ rfl rfl rfl W2 Hrun.out ?_
    (refine hK _ _ ?_; clear hK K)
    have hfr : Frame S w W2 := (Frame.of_below (Bdrew (Bdrew (Bnil w)))).grown hgrow (fun k hk => by cases hk; exact .inl hSm)
    have hsu2 : SuitP W2 u (some (U ++ [l])) S := by
      refine ⟨⟨tb, mm, _, ?_, ?_, Hsay.out.put hin, hSm, by simp; omega⟩, hSu, fun k hk => Nat.lt_of_lt_of_le (hSl k hk) hfr.size⟩
      · rw [hgrow.block u (by simpa using hul) (fun e => ?_)]
        · exact Hd.out
        · have he : u = mm := by simpa using e
          have h1 := Hd.out
          obtain ⟨es, clock, hm', _⟩ := Hmap.out
          rw [he, hm'] at h1
          cases h1
      · simpa using hmap2
    have Hsu2 := Lib.hid hsu2; clear hsu2 hmap2 hgrow
    clear hs1 hs2 hs3 hs1' hlen2
    go_wp2_with fail
    refine (mark_any U.length _ (by omega)).mono ?_; rintro e w1 ⟨A1, c1, rfl, hown, hb1⟩
    go_wp2_with fail
    go_ret
    exact ⟨_, _, rfl, own_mono hown hfr.size, Hsu2.out.below hb1, hfr.trans (Frame.of_below (S := S) hb1) (fun j hj => .inl hj)⟩

theorem Sum_any (A : Option Addr) (n c : Nat) (l : List UInt8) (h : SuitP w u K S) (hb : BytesAt w A n l) (h0 : 0 < n) (hn : n ≤ 1000000) (hU : roomK K + 1 ≤ 1000000) :
    Calls Try.prog 150 #[.pointer (some ⟨u, 0, none⟩), .slice A n c] w fun e w' => ∃ A' c', e = .returned (.slice A' 8 c') ∧ w'.ownsRow w.heap.size 5 1 (.slice A' 8 c') 8 (bytesV (sumK K l).1) ∧
      SuitP w' u (sumK K l).2 S ∧ Frame S w w' := by
  cases K with
  | none => exact (Sum_real A n c l h hb hn).mono fun _ _ ⟨A', c', he, ho, hbl⟩ => ⟨A', c', he, ho, h.below hbl, Frame.of_below hbl⟩
  | some U => exact Sum_sym A n c l U h hb h0 hn hU

end
end Go.Proofs.Ytdjndeleafhglaa
namespace Go.Proofs.Ytdjndeleafhglaa
open Go.RowKit

theorem fld0 (n0 n1 n2 n3 n4 n5 : Nat) (w : World) : (Instr.index 249 (.agg #[.int .u64 (n0 : Int), .int .i64 1, .int .u64 (n1 : Int), .int .i64 2, .int .u64 (n2 : Int), .int .i64 8, .int .u64 (n3 : Int), .int .i64 4, .int .u64 (n4 : Int), .int .i64 8, .int .u64 (n5 : Int), .int .i64 2]) (.int .i64 0)).run Try.prog w = .ok (.agg #[.int .u64 (n0 : Int), .int .i64 1]) w := by kernel_rfl
theorem fld1 (n0 n1 n2 n3 n4 n5 : Nat) (w : World) : (Instr.index 249 (.agg #[.int .u64 (n0 : Int), .int .i64 1, .int .u64 (n1 : Int), .int .i64 2, .int .u64 (n2 : Int), .int .i64 8, .int .u64 (n3 : Int), .int .i64 4, .int .u64 (n4 : Int), .int .i64 8, .int .u64 (n5 : Int), .int .i64 2]) (.int .i64 1)).run Try.prog w = .ok (.agg #[.int .u64 (n1 : Int), .int .i64 2]) w := by kernel_rfl
theorem fld2 (n0 n1 n2 n3 n4 n5 : Nat) (w : World) : (Instr.index 249 (.agg #[.int .u64 (n0 : Int), .int .i64 1, .int .u64 (n1 : Int), .int .i64 2, .int .u64 (n2 : Int), .int .i64 8, .int .u64 (n3 : Int), .int .i64 4, .int .u64 (n4 : Int), .int .i64 8, .int .u64 (n5 : Int), .int .i64 2]) (.int .i64 2)).run Try.prog w = .ok (.agg #[.int .u64 (n2 : Int), .int .i64 8]) w := by kernel_rfl
theorem fld3 (n0 n1 n2 n3 n4 n5 : Nat) (w : World) : (Instr.index 249 (.agg #[.int .u64 (n0 : Int), .int .i64 1, .int .u64 (n1 : Int), .int .i64 2, .int .u64 (n2 : Int), .int .i64 8, .int .u64 (n3 : Int), .int .i64 4, .int .u64 (n4 : Int), .int .i64 8, .int .u64 (n5 : Int), .int .i64 2]) (.int .i64 3)).run Try.prog w = .ok (.agg #[.int .u64 (n3 : Int), .int .i64 4]) w := by kernel_rfl
theorem fld4 (n0 n1 n2 n3 n4 n5 : Nat) (w : World) : (Instr.index 249 (.agg #[.int .u64 (n0 : Int), .int .i64 1, .int .u64 (n1 : Int), .int .i64 2, .int .u64 (n2 : Int), .int .i64 8, .int .u64 (n3 : Int), .int .i64 4, .int .u64 (n4 : Int), .int .i64 8, .int .u64 (n5 : Int), .int .i64 2]) (.int .i64 4)).run Try.prog w = .ok (.agg #[.int .u64 (n4 : Int), .int .i64 8]) w := by kernel_rfl
theorem fld5 (n0 n1 n2 n3 n4 n5 : Nat) (w : World) : (Instr.index 249 (.agg #[.int .u64 (n0 : Int), .int .i64 1, .int .u64 (n1 : Int), .int .i64 2, .int .u64 (n2 : Int), .int .i64 8, .int .u64 (n3 : Int), .int .i64 4, .int .u64 (n4 : Int), .int .i64 8, .int .u64 (n5 : Int), .int .i64 2]) (.int .i64 5)).run Try.prog w = .ok (.agg #[.int .u64 (n5 : Int), .int .i64 2]) w := by kernel_rfl

set_option maxRecDepth 100000 in
set_option maxHeartbeats 2000000 in
theorem written_any (p k q l g : Nat) (b : List UInt8) (A : Option Addr) (c : Nat) (w : World) (h : rightS (p : Int) ⟨(k : Int), l, (q : Int), g, b⟩ = 0) (hb : BytesAt w A b.length b) :
    Calls Try.prog 141 #[.int .i64 (p : Int), secV ⟨(k : Int), l, (q : Int), g, b⟩ A c] w fun e w' => ∃ g', e = .returned (.slice (some ⟨g', 0, none⟩) 504 504) ∧
      w'.ownsRow w.heap.size 5 1 (.slice (some ⟨g', 0, none⟩) 504 504) 504 (bytesV (textS (p : Int) ⟨(k : Int), l, (q : Int), g, b⟩)) ∧ Below w.heap.size w w' := by
  obtain ⟨r1, r2, r3, r4, r5, r6, r7⟩ := rightS_ok.1 h
  simp only at r1 r2 r5 r6 r7
  unfold secV
  simp only
  have hi0 := fun W => fld0 k p l q g b.length W
  have hi1 := fun W => fld1 k p l q g b.length W
  have hi2 := fun W => fld2 k p l q g b.length W
  have hi3 := fun W => fld3 k p l q g b.length W
  have hi4 := fun W => fld4 k p l q g b.length W
  have hi5 := fun W => fld5 k p l q g b.length W
  have Hb := Lib.hid hb; clear hb h
  go_enter Try.func141, Try.ntmps141
  go_wp2_with fail
  have hx4 : (w.alloc (.cells #[.int .i64 (k : Int), .int .u64 (l : Int), .int .i64 (q : Int), .int .u64 (g : Int), .slice A b.length c] 54)).cell? ⟨w.heap.size, 4, none⟩ = some (.slice A b.length c) := by
    rw [cell_of_row _ _ _ _ _ _ (heap_alloc_new w _)]; rfl
  have hB0 : Below w.heap.size w (w.alloc (.cells #[.int .i64 (k : Int), .int .u64 (l : Int), .int .i64 (q : Int), .int .u64 (g : Int), .slice A b.length c] 54)) := Bbox _ _
  have hZ0 : w.heap.size < (w.alloc (.cells #[.int .i64 (k : Int), .int .u64 (l : Int), .int .i64 (q : Int), .int .u64 (g : Int), .slice A b.length c] 54)).heap.size := by simp
  generalize w.alloc (.cells #[.int .i64 (k : Int), .int .u64 (l : Int), .int .i64 (q : Int), .int .u64 (g : Int), .slice A b.length c] 54) = W0 at hx4 hB0 hZ0 ⊢
  have Hx0 := Lib.hid hx4; clear hx4
  have hown0 : W0.ownsRow W0.heap.size 5 1 (.slice none 0 0) 0 (bytesV []) := World.ownsRow_nil _ _ _ _
  have hC0 : Below W0.heap.size W0 W0 := Bnil W0
  refine wp_loop_rounds 7 ?_
  rw [rounds_succ]
  go_wp2_with fail
  refine (NPut_any k 1 _ (by decide) (by decide)).mono ?_
  rintro e wp ⟨Ap, cp, rfl, hownp, hbp⟩
  have hbx : Below W0.heap.size W0 wp := Bthen (Bbox _ _) hbp
  have hCp := Bthen hC0 hbx
  have hzp := hCp.size
  have Hacc := Lib.hid (own_below hown0 hbx)
  have Hbp := Lib.hid (BytesAt.own hownp); clear hownp
  clear hown0 hbx
  go_wp2_with (at_builtin; refine wpList_appB rfl _ _ rfl W0.heap.size 0 _ rfl _ Hacc.out Ap 1 cp rfl _ Hbp.out (by decide) hzp ?_; intro A1 c1 W1 hown1 hg hat)
  have hC1 := Below.app hCp Hacc.out hg hzp
  clear hat hg hzp hCp hbp Hacc Hbp
  rw [rounds_succ]
  go_wp2_with fail
  refine (NPut_any p 2 _ (by decide) (by decide)).mono ?_
  rintro e wp ⟨Ap, cp, rfl, hownp, hbp⟩
  have hbx : Below W1.heap.size W1 wp := Bthen (Bbox _ _) hbp
  have hCp := Bthen hC1 hbx
  have hzp := hCp.size
  have Hacc := Lib.hid (own_below hown1 hbx)
  have Hbp := Lib.hid (BytesAt.own hownp); clear hownp
  clear hown1 hbx
  go_wp2_with (at_builtin; refine wpList_appB rfl _ _ rfl W0.heap.size 1 _ rfl _ Hacc.out Ap 2 cp rfl _ Hbp.out (by decide) hzp ?_; intro A2 c2 W2 hown2 hg hat)
  have hC2 := Below.app hCp Hacc.out hg hzp
  clear hat hg hzp hCp hbp Hacc Hbp
  rw [rounds_succ]
  go_wp2_with fail
  refine (NPut_any l 8 _ (by decide) (by decide)).mono ?_
  rintro e wp ⟨Ap, cp, rfl, hownp, hbp⟩
  have hbx : Below W2.heap.size W2 wp := Bthen (Bbox _ _) hbp
  have hCp := Bthen hC2 hbx
  have hzp := hCp.size
  have Hacc := Lib.hid (own_below hown2 hbx)
  have Hbp := Lib.hid (BytesAt.own hownp); clear hownp
  clear hown2 hbx
  go_wp2_with (at_builtin; refine wpList_appB rfl _ _ rfl W0.heap.size 3 _ rfl _ Hacc.out Ap 8 cp rfl _ Hbp.out (by decide) hzp ?_; intro A3 c3 W3 hown3 hg hat)
  have hC3 := Below.app hCp Hacc.out hg hzp
  clear hat hg hzp hCp hbp Hacc Hbp
  rw [rounds_succ]
  go_wp2_with fail
  refine (NPut_any q 4 _ (by decide) (by decide)).mono ?_
  rintro e wp ⟨Ap, cp, rfl, hownp, hbp⟩
  have hbx : Below W3.heap.size W3 wp := Bthen (Bbox _ _) hbp
  have hCp := Bthen hC3 hbx
  have hzp := hCp.size
  have Hacc := Lib.hid (own_below hown3 hbx)
  have Hbp := Lib.hid (BytesAt.own hownp); clear hownp
  clear hown3 hbx
  go_wp2_with (at_builtin; refine wpList_appB rfl _ _ rfl W0.heap.size 11 _ rfl _ Hacc.out Ap 4 cp rfl _ Hbp.out (by decide) hzp ?_; intro A4 c4 W4 hown4 hg hat)
  have hC4 := Below.app hCp Hacc.out hg hzp
  clear hat hg hzp hCp hbp Hacc Hbp
  rw [rounds_succ]
  go_wp2_with fail
  refine (NPut_any g 8 _ (by decide) (by decide)).mono ?_
  rintro e wp ⟨Ap, cp, rfl, hownp, hbp⟩
  have hbx : Below W4.heap.size W4 wp := Bthen (Bbox _ _) hbp
  have hCp := Bthen hC4 hbx
  have hzp := hCp.size
  have Hacc := Lib.hid (own_below hown4 hbx)
  have Hbp := Lib.hid (BytesAt.own hownp); clear hownp
  clear hown4 hbx
  go_wp2_with (at_builtin; refine wpList_appB rfl _ _ rfl W0.heap.size 15 _ rfl _ Hacc.out Ap 8 cp rfl _ Hbp.out (by decide) hzp ?_; intro A5 c5 W5 hown5 hg hat)
  have hC5 := Below.app hCp Hacc.out hg hzp
  clear hat hg hzp hCp hbp Hacc Hbp
  rw [rounds_succ]
  go_wp2_with fail
  refine (NPut_any b.length 2 _ (by decide) (by decide)).mono ?_
  rintro e wp ⟨Ap, cp, rfl, hownp, hbp⟩
  have hbx : Below W5.heap.size W5 wp := Bthen (Bbox _ _) hbp
  have hCp := Bthen hC5 hbx
  have hzp := hCp.size
  have Hacc := Lib.hid (own_below hown5 hbx)
  have Hbp := Lib.hid (BytesAt.own hownp); clear hownp
  clear hown5 hbx
  go_wp2_with (at_builtin; refine wpList_appB rfl _ _ rfl W0.heap.size 23 _ rfl _ Hacc.out Ap 2 cp rfl _ Hbp.out (by decide) hzp ?_; intro A6 c6 W6 hown6 hg hat)
  have hC6 := Below.app hCp Hacc.out hg hzp
  clear hat hg hzp hCp hbp Hacc Hbp
  rw [rounds_succ]
  have hx4 := (hC6.cell (p := ⟨w.heap.size, 4, none⟩) hZ0).trans Hx0.out
  have Hb6 := Lib.hid (Hb.out.below (w' := W6) (Bthen hB0 hC6))
  have Hacc := Lib.hid hown6; clear hown6
  have hz6 := hC6.size
  go_wp2_with (at_builtin; refine wpList_appB rfl _ _ rfl W0.heap.size 25 _ rfl _ Hacc.out A b.length c rfl _ Hb6.out (by omega) hz6 ?_; intro A7 c7 W7 hown7 hg hat)
  have hC7 := Below.app hC6 Hacc.out hg hz6
  have HB7 := Lib.hid (BytesAt.own hown7)
  clear hat hg Hacc Hb6 hown7
  refine (NPad_any A7 (25 + b.length) c7 504 _ W7 HB7.out (by omega) (by decide) (by decide)).mono ?_
  rintro e w8 ⟨rfl, hp8, hb8⟩
  go_wp2_with fail
  go_ret
  have hB7 := Bthen hB0 hC7
  have hlen : (textS (p : Int) ⟨(k : Int), l, (q : Int), g, b⟩).length = 504 := textS_length _ _
  refine ⟨_, rfl, own_of_block 504 hlen ?_ hB7.size (by decide), Bthen hB7 hb8⟩
  rw [hp8]
  simp [textS, headS]

theorem written_all (p : Int) (x : Sec) (A : Option Addr) (c : Nat) (w : World) (h : rightS p x = 0) (hb : BytesAt w A x.body.length x.body) :
    Calls Try.prog 141 #[.int .i64 p, secV x A c] w fun e w' => ∃ g', e = .returned (.slice (some ⟨g', 0, none⟩) 504 504) ∧
      w'.ownsRow w.heap.size 5 1 (.slice (some ⟨g', 0, none⟩) 504 504) 504 (bytesV (textS p x)) ∧ Below w.heap.size w w' := by
  obtain ⟨k, l, q, g, b⟩ := x
  obtain ⟨h1, h2, h3, h4, h5, h6, h7⟩ := rightS_ok.1 h
  simp only at h1 h5
  obtain ⟨k, rfl⟩ := Int.eq_ofNat_of_zero_le (show 0 ≤ k by omega)
  obtain ⟨q, rfl⟩ := Int.eq_ofNat_of_zero_le h5
  obtain ⟨p, rfl⟩ := Int.eq_ofNat_of_zero_le h3
  exact written_any p k q l g b A c w h hb

theorem own_frame {w w' : World} {S : Nat → Prop} {base : Nat} {e : TypeId} {size : Nat} {v : Value} {n : Nat} {xs : List Value} (h : w.ownsRow base e size v n xs) (hf : Frame S w w') (hS : ∀ k, S k → k < base) : w'.ownsRow base e size v n xs :=
  own_same h fun g cur hg _ => hf.block g (h.lt g hg).2 (fun hs => by have := hS g hs; have := (h.lt g hg).1; omega)

theorem cells5 {w : World} {x : Nat} {a b c d e : Value} {t : TypeId} (h : w.heap[x]? = some (.cells #[a, b, c, d, e] t (0, 0))) :
    w.cell? ⟨x, 0, none⟩ = some a ∧ w.cell? ⟨x, 1, none⟩ = some b ∧ w.cell? ⟨x, 2, none⟩ = some c ∧ w.cell? ⟨x, 3, none⟩ = some d ∧ w.cell? ⟨x, 4, none⟩ = some e ∧ ∀ i, w.frozen? ⟨x, i, none⟩ = false := by
  refine ⟨?_, ?_, ?_, ?_, ?_, fun i => ?_⟩
  all_goals first
    | (rw [cell_of_row _ _ _ _ _ _ h]; rfl)
    | (simp [World.frozen?, h])
theorem padB_self {l : List UInt8} {n : Nat} (h : l.length = n) : padB l n = l := by
  rw [padB_le (by omega), h, Nat.sub_self, List.replicate_zero, List.append_nil]

section
variable {w : World} {u : Nat} {K : SU} {S : Nat → Prop}
set_option maxRecDepth 100000 in
theorem Encode_nil (p : Int) (x : Sec) (A : Option Addr) (c : Nat) (w : World) :
    Calls Try.prog 66 #[.pointer none, .int .i64 p, secV x A c] w fun e w' => e = .returned (.tuple #[.slice none 0 0, .int .i64 1]) ∧ Below w.heap.size w w' := by
  unfold secV
  go_enter Try.func66, Try.ntmps66
  go_wp2_with fail
  refine (none_nil _).mono ?_; rintro e w1 ⟨rfl, rfl⟩
  go_wp2_with fail
  go_ret2
  exact ⟨rfl, Bbox _ _⟩

set_option maxRecDepth 100000 in
theorem Encode_no (p : Int) (x : Sec) (A : Option Addr) (c : Nat) (h : rightS p x ≠ 0) :
    Calls Try.prog 66 #[.pointer (some ⟨u, 0, none⟩), .int .i64 p, secV x A c] w fun e w' => e = .returned (.tuple #[.slice none 0 0, .int .i64 (rightS p x)]) ∧ Below w.heap.size w w' := by
  have hr := fun W => right_any p x A c W
  have hx0 : ∀ W : World, (W.alloc (.cells (secV x A c).cells 54)).heap[W.heap.size]? = some (.cells (secV x A c).cells 54 (0, 0)) := fun W => heap_alloc_new W _
  have hne : ¬ rightS p x = 0 := h
  have hb0 : (rightS p x != 0) = true := by simpa using h
  generalize rightS p x = r at hr hne hb0 ⊢
  unfold secV at hr ⊢
  have Hr := Lib.hid hr; clear hr hx0 h
  go_enter Try.func66, Try.ntmps66
  go_wp2_with fail
  refine (none_any _ _).mono ?_; rintro e w1 ⟨rfl, rfl⟩
  go_wp2_with fail
  refine (Hr.out _).mono ?_; rintro e w1 ⟨rfl, hb1⟩
  go_wp2_with fail
  go_ret2
  exact ⟨rfl, Bthen (Bbox _ _) hb1⟩

set_option maxRecDepth 100000 in
set_option maxHeartbeats 1000000 in
theorem Encode_yes (p k q l g : Nat) (b : List UInt8) (A : Option Addr) (c : Nat) (hK : SuitP w u K S) (h : rightS (p : Int) ⟨(k : Int), l, (q : Int), g, b⟩ = 0) (hb : BytesAt w A b.length b) (hU : roomK K + 1 ≤ 1000000) :
    Calls Try.prog 66 #[.pointer (some ⟨u, 0, none⟩), .int .i64 (p : Int), secV ⟨(k : Int), l, (q : Int), g, b⟩ A c] w fun e w' => ∃ A' c', e = .returned (.tuple #[.slice A' 512 c', .int .i64 0]) ∧
      w'.ownsRow w.heap.size 5 1 (.slice A' 512 c') 512 (bytesV (encK K (p : Int) ⟨(k : Int), l, (q : Int), g, b⟩).1) ∧ SuitP w' u (encK K (p : Int) ⟨(k : Int), l, (q : Int), g, b⟩).2 S ∧ Frame S w w' := by
  have hr := fun W => right_any (p : Int) ⟨(k : Int), l, (q : Int), g, b⟩ A c W
  rw [h] at hr
  have hwr := fun W => written_any p k q l g b A c W h
  unfold encK
  have hSl := hK.2.2
  unfold secV at hr hwr ⊢
  simp only at hr hwr ⊢
  generalize textS (p : Int) ⟨(k : Int), l, (q : Int), g, b⟩ = T at hwr ⊢
  have hTl : (sumK K T).1.length = 8 := sumK_length K T
  have Hr := Lib.hid hr; clear hr
  have Hwr := Lib.hid hwr; clear hwr
  have Hb := Lib.hid hb; clear hb
  have HTl := Lib.hid hTl; clear hTl h
  go_enter Try.func66, Try.ntmps66
  go_wp2_with fail
  refine (none_any _ _).mono ?_; rintro e w1 ⟨rfl, rfl⟩
  go_wp2_with fail
  have hbx : Below w.heap.size w (w.alloc (.cells #[.int .i64 (k : Int), .int .u64 (l : Int), .int .i64 (q : Int), .int .u64 (g : Int), .slice A b.length c] 54)) := Bbox _ _
  have hx0 := heap_alloc_new w (.cells #[.int .i64 (k : Int), .int .u64 (l : Int), .int .i64 (q : Int), .int .u64 (g : Int), .slice A b.length c] 54)
  generalize w.alloc (.cells #[.int .i64 (k : Int), .int .u64 (l : Int), .int .i64 (q : Int), .int .u64 (g : Int), .slice A b.length c] 54) = W0 at hbx hx0 ⊢
  have hx0l := blk_lt hx0
  refine (Hr.out _).mono ?_; rintro e w1 ⟨rfl, hb1⟩
  have hx1 := (hb1.block _ hx0l).trans hx0
  have hx1l := blk_lt hx1
  have HB1 := Bthen hbx hb1
  obtain ⟨d0, d1, d2, d3, d4, df⟩ := cells5 hx1
  have hb1' := Hb.out.below HB1
  go_wp2_with fail
  refine (Hwr.out _ hb1').mono ?_; rintro e w2 ⟨g2, rfl, hown2, hb2⟩
  have hz1 := HB1.size
  have HB2 := Bthen HB1 hb2
  have hBT := BytesAt.own hown2
  have hK2 := hK.below HB2
  have hTlen := hBT.len
  go_wp2_with fail
  refine (Sum_any (some ⟨g2, 0, none⟩) 504 504 T hK2 hBT (by decide) (by decide) hU).mono ?_
  rintro e w3 ⟨A3, c3, rfl, hown3, hK3, hf3⟩
  have hownT := own_frame hown2 hf3 (fun k hk => by have := hSl k hk; omega)
  have hB3 := BytesAt.own hown3
  go_wp2_with fail
  refine (NPad_any A3 8 c3 8 _ w3 hB3 (by decide) (by decide) (by decide)).mono ?_
  rintro e w4 ⟨rfl, hp4, hb4⟩
  rw [padB_self HTl.out] at hp4
  have hownT4 := own_below hownT hb4
  have hB4 := BytesAt.of_block (l := (sumK K T).1) 8 HTl.out hp4
  have hz3 := hf3.size
  have hz4 := hb4.size
  have hz2 := hb2.size
  have HownT4 := Lib.hid hownT4
  have HB4 := Lib.hid hB4
  clear hownT4 hB4 hp4 hown2 hown3 hBT hownT hB3 hx0 hx1 d0 d1 d2 d3 d4 hb1'
  go_wp2_with (at_builtin; refine wpList_appB rfl _ _ rfl w1.heap.size 504 _ rfl _ HownT4.out (some ⟨w3.heap.size, 0, none⟩) 8 8 rfl _ HB4.out (by decide) (by omega) ?_; intro A5 c5 w5 hown5 hg5 hat5)
  go_ret2
  have hS1 : ∀ k, S k → k < w1.heap.size := fun k hk => by have := hSl k hk; omega
  have hfin : Below w1.heap.size w4 w5 := (Below.refl _ _).grown hg5 (by omega) (fun k hk => (HownT4.out.lt k hk).1)
  have hfr : Frame S w w5 := ((((Frame.of_below (S := S) HB2).trans hf3 (fun j hj => .inl hj)).trans (Frame.of_below (S := S) hb4) (fun j hj => .inl hj))).grown hg5 (fun k hk => .inr (by have := (HownT4.out.lt k hk).1; omega))
  refine ⟨A5, c5, rfl, own_mono hown5 hz1, ?_, hfr⟩
  exact (hK3.below hb4).keep hfin.size (fun k hk => hfin.block k (hS1 k hk))
theorem Encode_all (p : Int) (x : Sec) (A : Option Addr) (c : Nat) (hK : SuitP w u K S) (h : rightS p x = 0) (hb : BytesAt w A x.body.length x.body) (hU : roomK K + 1 ≤ 1000000) :
    Calls Try.prog 66 #[.pointer (some ⟨u, 0, none⟩), .int .i64 p, secV x A c] w fun e w' => ∃ A' c', e = .returned (.tuple #[.slice A' 512 c', .int .i64 0]) ∧
      w'.ownsRow w.heap.size 5 1 (.slice A' 512 c') 512 (bytesV (encK K p x).1) ∧ SuitP w' u (encK K p x).2 S ∧ Frame S w w' := by
  obtain ⟨k, l, q, g, b⟩ := x
  obtain ⟨h1, h2, h3, h4, h5, h6, h7⟩ := rightS_ok.1 h
  simp only at h1 h5
  obtain ⟨k, rfl⟩ := Int.eq_ofNat_of_zero_le (show 0 ≤ k by omega)
  obtain ⟨q, rfl⟩ := Int.eq_ofNat_of_zero_le h5
  obtain ⟨p, rfl⟩ := Int.eq_ofNat_of_zero_le h3
  exact Encode_yes p k q l g b A c hK h hb hU

end

end Go.Proofs.Ytdjndeleafhglaa
namespace Go.Proofs.Ytdjndeleafhglaa
open Go.RowKit

theorem bytesV_take' (l : List UInt8) (n : Nat) : bytesV (l.take n) = (bytesV l).take n := by simp [bytesV, List.map_take]
theorem bytesV_drop' (l : List UInt8) (n : Nat) : bytesV (l.drop n) = (bytesV l).drop n := by simp [bytesV, List.map_drop]
theorem range_part {w : World} {g o : Nat} {l : List UInt8} (h : w.rangeAt g o (bytesV l)) (i m : Nat) : w.rangeAt g (o + i) (bytesV ((l.drop i).take m)) := fun j v hv => by
  rw [bytesV_take', bytesV_drop', List.getElem?_take] at hv
  split at hv
  · rw [List.getElem?_drop] at hv
    have := h (i + j) v hv
    rw [Nat.add_assoc]; exact this
  · cases hv
theorem bytes_part {w : World} {g o n : Nat} {l : List UInt8} (h : BytesAt w (some ⟨g, o, none⟩) n l) (i m : Nat) (him : i + m ≤ n) : BytesAt w (some ⟨g, o + i, none⟩) m ((l.drop i).take m) :=
  ⟨by rw [List.length_take, List.length_drop, h.len]; omega, fun hm => by
    obtain ⟨g', o', he, hr⟩ := h.at_ (by omega)
    cases he
    exact ⟨g, o + i, rfl, range_part hr i m⟩⟩

set_option maxRecDepth 100000 in
set_option maxHeartbeats 1000000 in
theorem take_any (t g o n c k : Nat) (l : List UInt8) (w : World) (ht : w.heap[t]? = some (.cells #[.slice (some ⟨g, o, none⟩) n c] 244 (0, 0))) (hb : BytesAt w (some ⟨g, o, none⟩) n l) (h1 : 1 ≤ k) (h8 : k ≤ 8) (hk : k < n) (hc : n ≤ c) :
    Calls Try.prog 180 #[.pointer (some ⟨t, 0, none⟩), .int .i64 (k : Int)] w fun e w' => e = .returned (.int .u64 (getB (l.take k) : Int)) ∧
      w'.heap[t]? = some (.cells #[.slice (some ⟨g, o + k, none⟩) (n - k) (c - k)] 244 (0, 0)) ∧ Frame (fun j => j = t) w w' := by
  obtain ⟨hx0, hf0⟩ := cell_of_one ht
  have hb2 := bytes_part hb 0 k (by omega)
  rw [List.drop_zero, Nat.add_zero] at hb2
  have h3 := one_set ht (.slice (some ⟨g, o + k, none⟩) (n - k) (c - k))
  have hkc : ¬ (c = k) := by omega
  have Hb2 := Lib.hid hb2; clear hb2
  have H3 := Lib.hid h3; clear h3
  have Hb := Lib.hid hb; clear hb
  have Ht := Lib.hid ht; clear ht
  go_enter Try.func180, Try.ntmps180
  go_wp2_with fail
  refine (NGet_any (some ⟨g, o, none⟩) k k _ w Hb2.out (by omega) h8).mono ?_
  rintro e w1 ⟨rfl, rfl⟩
  go_wp2_with fail
  go_ret
  exact ⟨rfl, H3.out, Frame.setCell (S := fun j => j = t) (Frame.refl _ w) (.inl rfl) _⟩

theorem getB_bd (l : List UInt8) (k : Nat) (n : Nat) (hk : 256 ^ k ≤ n) : getB (l.take k) < n := by
  have h1 := getB_lt (l.take k)
  have h2 : 256 ^ (l.take k).length ≤ 256 ^ k := Nat.pow_le_pow_right (by omega) (List.length_take_le _ _)
  omega
theorem bytes_tail {w : World} {g o n : Nat} {l : List UInt8} (h : BytesAt w (some ⟨g, o, none⟩) n l) (i m : Nat) (him : i + m = n) : BytesAt w (some ⟨g, o + i, none⟩) m (l.drop i) := by
  have := bytes_part h i m (by omega)
  rwa [List.take_of_length_le (by rw [List.length_drop, h.len]; omega)] at this
/-- One more number is taken off the bytes, so many of them being gone. -/
theorem take_at (t g o n c k i n2 c2 i2 v : Nat) (l : List UInt8) (w : World) (hv : getB ((l.drop i).take k) = v) (ht : w.heap[t]? = some (.cells #[.slice (some ⟨g, o + i, none⟩) n c] 244 (0, 0))) (hb : BytesAt w (some ⟨g, o, none⟩) 512 l) (h1 : 1 ≤ k) (h8 : k ≤ 8) (hk : k < n) (hc : n ≤ c)
    (hi : i + n = 512) (e1 : n2 = n - k) (e2 : c2 = c - k) (e3 : i2 = i + k) :
    Calls Try.prog 180 #[.pointer (some ⟨t, 0, none⟩), .int .i64 (k : Int)] w fun e w' => e = .returned (.int .u64 (v : Int)) ∧
      w'.heap[t]? = some (.cells #[.slice (some ⟨g, o + i2, none⟩) n2 c2] 244 (0, 0)) ∧ Frame (fun j => j = t) w w' := by
  subst e1 e2 e3 hv
  rw [← Nat.add_assoc]
  exact take_any t g (o + i) n c k (l.drop i) w ht (bytes_tail hb i n hi) h1 h8 hk hc

/-- A clone of bytes that are somewhere. -/
theorem Clone_at {g : Nat} (o n c : Nat) (l : List UInt8) (w : World) (hb : BytesAt w (some ⟨g, o, none⟩) n l) (hn : n ≤ 1000000) :
    Calls Try.prog 135 #[.slice (some ⟨g, o, none⟩) n c] w fun e w' => ∃ A' c', e = .returned (.slice A' n c') ∧ w'.ownsRow w.heap.size 5 1 (.slice A' n c') n (bytesV l) ∧ Below w.heap.size w w' := by
  have hr : w.rangeAt g o (bytesV l) := fun j v hv => by
    have hj : j < n := by have := (List.getElem?_eq_some_iff.1 hv).1; rw [bytesV_length, hb.len] at this; exact this
    obtain ⟨g', o', he, hr⟩ := hb.at_ (by omega)
    cases he
    exact hr j v hv
  refine (Clone_any g o n c (bytesV l) w (by rw [bytesV_length, hb.len]) hn (bytesV_one l) hr).mono fun e w' ⟨v, he, ho, hbl⟩ => ?_
  obtain ⟨A', c', rfl⟩ := own_form ho
  exact ⟨A', c', he, ho, hbl⟩

/-- What read answers. -/
def ReadPost (l : List UInt8) (w : World) (e : Ending) (w' : World) : Prop :=
  (readS l = none ∧ e = .returned (.tuple #[secV secZero none 0, .bool false]) ∧ Below w.heap.size w w') ∨
  (∃ x A c', readS l = some x ∧ e = .returned (.tuple #[secV x A c', .bool true]) ∧ w'.ownsRow w.heap.size 5 1 (.slice A x.body.length c') x.body.length (bytesV x.body) ∧ Below w.heap.size w w')

set_option maxRecDepth 100000 in
set_option maxHeartbeats 2000000 in
theorem read_any (g o d : Nat) (l : List UInt8) (w : World) (hb : BytesAt w (some ⟨g, o, none⟩) 512 l) (hd : 487 ≤ d) :
    Calls Try.prog 138 #[.slice (some ⟨g, o, none⟩) 512 (d + 25)] w fun e w' => ReadPost l w e w' := by
  have hlen := hb.len
  obtain ⟨n1, e1⟩ : ∃ n1, getB ((l.drop 0).take 1) = n1 := ⟨_, rfl⟩
  obtain ⟨n2, e2⟩ : ∃ n2, getB ((l.drop 1).take 2) = n2 := ⟨_, rfl⟩
  obtain ⟨n3, e3⟩ : ∃ n3, getB ((l.drop 3).take 8) = n3 := ⟨_, rfl⟩
  obtain ⟨n4, e4⟩ : ∃ n4, getB ((l.drop 11).take 4) = n4 := ⟨_, rfl⟩
  obtain ⟨n5, e5⟩ : ∃ n5, getB ((l.drop 15).take 8) = n5 := ⟨_, rfl⟩
  obtain ⟨n6, e6⟩ : ∃ n6, getB ((l.drop 23).take 2) = n6 := ⟨_, rfl⟩
  have b1 : n1 < 256 := by rw [← e1]; exact getB_bd _ _ _ (by decide)
  have b4 : n4 < 4294967296 := by rw [← e4]; exact getB_bd _ _ _ (by decide)
  have b6 : n6 < 65536 := by rw [← e6]; exact getB_bd _ _ _ (by decide)
  have hrd : readS l = if 479 < n6 then none else some ⟨(n1 : Int), n3, (n4 : Int), n5, (l.drop 25).take n6⟩ := by
    unfold readS
    rw [e6, e3, e4, e5]
    rw [List.drop_zero] at e1
    rw [e1]
  have E1 := Lib.hid e1; clear e1
  have E2 := Lib.hid e2; clear e2
  have E3 := Lib.hid e3; clear e3
  have E4 := Lib.hid e4; clear e4
  have E5 := Lib.hid e5; clear e5
  have E6 := Lib.hid e6; clear e6
  have Hrd := Lib.hid hrd; clear hrd
  have Hby : Hid (∀ W, Below w.heap.size w W → BytesAt W (some ⟨g, o, none⟩) 512 l) := Lib.hid fun W h => hb.below h
  have Hlen := Lib.hid hlen; clear hlen hb
  go_enter Try.func138, Try.ntmps138
  go_wp2_with fail
  have hB0 : Below w.heap.size w ((w.alloc (.cells #[.int .i64 0, .int .u64 0, .int .i64 0, .int .u64 0, .slice none 0 0] 54)).alloc (.cells #[.slice (some ⟨g, o, none⟩) 512 (d + 25)] 244)) := Bnew (Bbox _ _) _
  have hX0 : ((w.alloc (.cells #[.int .i64 0, .int .u64 0, .int .i64 0, .int .u64 0, .slice none 0 0] 54)).alloc (.cells #[.slice (some ⟨g, o, none⟩) 512 (d + 25)] 244)).heap[w.heap.size]? = some (.cells #[.int .i64 0, .int .u64 0, .int .i64 0, .int .u64 0, .slice none 0 0] 54 (0, 0)) := by
    rw [Below.heap_alloc _ _ _ (by simp)]; exact heap_alloc_new w _
  have hT0 : ((w.alloc (.cells #[.int .i64 0, .int .u64 0, .int .i64 0, .int .u64 0, .slice none 0 0] 54)).alloc (.cells #[.slice (some ⟨g, o, none⟩) 512 (d + 25)] 244)).heap[w.heap.size + 1]? = some (.cells #[.slice (some ⟨g, o + 0, none⟩) 512 (d + 25)] 244 (0, 0)) := by
    have := heap_alloc_new (w.alloc (.cells #[.int .i64 0, .int .u64 0, .int .i64 0, .int .u64 0, .slice none 0 0] 54)) (.cells #[.slice (some ⟨g, o, none⟩) 512 (d + 25)] 244)
    simpa using this
  generalize (w.alloc (.cells #[.int .i64 0, .int .u64 0, .int .i64 0, .int .u64 0, .slice none 0 0] 54)).alloc (.cells #[.slice (some ⟨g, o, none⟩) 512 (d + 25)] 244) = W0 at hB0 hX0 hT0 ⊢
  have HX0 := Lib.hid hX0; clear hX0
  refine (take_at (w.heap.size + 1) g o 512 (d + 25) 1 0 511 (d + 24) 1 n1 l _ E1.out hT0 (Hby.out _ hB0) (by decide) (by decide) (by decide) (by omega) (by decide) (by decide) (by omega) (by decide)).mono ?_
  rintro e W1 ⟨rfl, hT1, hf1⟩
  have hlx1 := blk_lt HX0.out
  have hlt1 := blk_lt hT0
  have hB1 := hB0.trans (hf1.own (B := w.heap.size) (by omega) (by omega))
  have hX1 := (hf1.block w.heap.size hlx1 (by omega)).trans HX0.out
  have HX1 := Lib.hid hX1
  clear hf1 hT0 hB0
  obtain ⟨x0, x1, x2, x3, x4, xf⟩ := cells5 hX1
  clear hX1
  go_wp2_with fail
  have hXs : (W1.setCell ⟨w.heap.size, 0, none⟩ (.int .i64 (n1 : Int))).heap[w.heap.size]? = some (.cells #[.int .i64 (n1 : Int), .int .u64 0, .int .i64 0, .int .u64 0, .slice none 0 0] 54 (0, 0)) := (blk_set HX1.out 0 (.int .i64 (n1 : Int)))
  have hTs : (W1.setCell ⟨w.heap.size, 0, none⟩ (.int .i64 (n1 : Int))).heap[w.heap.size + 1]? = _ := ((Below.heap_setCell _ ⟨w.heap.size, 0, none⟩ (.int .i64 (n1 : Int)) _ (by simp)).trans hT1)
  have hBs : Below w.heap.size w (W1.setCell ⟨w.heap.size, 0, none⟩ (.int .i64 (n1 : Int))) := (hB1.setCell (p := ⟨w.heap.size, 0, none⟩) (Nat.le_refl _) (.int .i64 (n1 : Int)))
  clear x0 x1 x2 x3 x4 xf hT1 hB1
  generalize (W1.setCell ⟨w.heap.size, 0, none⟩ (.int .i64 (n1 : Int))) = V10 at hXs hTs hBs ⊢
  have HX10 := Lib.hid hXs; clear hXs
  have hT10 := hTs; clear hTs
  have hB10 := hBs; clear hBs
  refine (take_at (w.heap.size + 1) g o 511 (d + 24) 2 1 509 (d + 22) 3 n2 l _ E2.out hT10 (Hby.out _ hB10) (by decide) (by decide) (by decide) (by omega) (by decide) (by decide) (by omega) (by decide)).mono ?_
  rintro e W2 ⟨rfl, hT2, hf2⟩
  have hlx2 := blk_lt HX10.out
  have hlt2 := blk_lt hT10
  have hB2 := hB10.trans (hf2.own (B := w.heap.size) (by omega) (by omega))
  have hX2 := (hf2.block w.heap.size hlx2 (by omega)).trans HX10.out
  have HX2 := Lib.hid hX2
  clear hf2 hT10 hB10
  clear hX2
  go_wp2_with fail
  refine (take_at (w.heap.size + 1) g o 509 (d + 22) 8 3 501 (d + 14) 11 n3 l _ E3.out hT2 (Hby.out _ hB2) (by decide) (by decide) (by decide) (by omega) (by decide) (by decide) (by omega) (by decide)).mono ?_
  rintro e W3 ⟨rfl, hT3, hf3⟩
  have hlx3 := blk_lt HX2.out
  have hlt3 := blk_lt hT2
  have hB3 := hB2.trans (hf3.own (B := w.heap.size) (by omega) (by omega))
  have hX3 := (hf3.block w.heap.size hlx3 (by omega)).trans HX2.out
  have HX3 := Lib.hid hX3
  clear hf3 hT2 hB2
  clear hX3
  go_wp2_with fail
  refine (take_at (w.heap.size + 1) g o 501 (d + 14) 4 11 497 (d + 10) 15 n4 l _ E4.out hT3 (Hby.out _ hB3) (by decide) (by decide) (by decide) (by omega) (by decide) (by decide) (by omega) (by decide)).mono ?_
  rintro e W4 ⟨rfl, hT4, hf4⟩
  have hlx4 := blk_lt HX3.out
  have hlt4 := blk_lt hT3
  have hB4 := hB3.trans (hf4.own (B := w.heap.size) (by omega) (by omega))
  have hX4 := (hf4.block w.heap.size hlx4 (by omega)).trans HX3.out
  have HX4 := Lib.hid hX4
  clear hf4 hT3 hB3
  clear hX4
  go_wp2_with fail
  refine (take_at (w.heap.size + 1) g o 497 (d + 10) 8 15 489 (d + 2) 23 n5 l _ E5.out hT4 (Hby.out _ hB4) (by decide) (by decide) (by decide) (by omega) (by decide) (by decide) (by omega) (by decide)).mono ?_
  rintro e W5 ⟨rfl, hT5, hf5⟩
  have hlx5 := blk_lt HX4.out
  have hlt5 := blk_lt hT4
  have hB5 := hB4.trans (hf5.own (B := w.heap.size) (by omega) (by omega))
  have hX5 := (hf5.block w.heap.size hlx5 (by omega)).trans HX4.out
  have HX5 := Lib.hid hX5
  clear hf5 hT4 hB4
  obtain ⟨x0, x1, x2, x3, x4, xf⟩ := cells5 hX5
  clear hX5
  go_wp2_with fail
  have hXs : (((W5.setCell ⟨w.heap.size, 1, none⟩ (.int .u64 (n3 : Int))).setCell ⟨w.heap.size, 2, none⟩ (.int .i64 (n4 : Int))).setCell ⟨w.heap.size, 3, none⟩ (.int .u64 (n5 : Int))).heap[w.heap.size]? = some (.cells #[.int .i64 (n1 : Int), .int .u64 (n3 : Int), .int .i64 (n4 : Int), .int .u64 (n5 : Int), .slice none 0 0] 54 (0, 0)) := (blk_set (blk_set (blk_set HX5.out 1 (.int .u64 (n3 : Int))) 2 (.int .i64 (n4 : Int))) 3 (.int .u64 (n5 : Int)))
  have hTs : (((W5.setCell ⟨w.heap.size, 1, none⟩ (.int .u64 (n3 : Int))).setCell ⟨w.heap.size, 2, none⟩ (.int .i64 (n4 : Int))).setCell ⟨w.heap.size, 3, none⟩ (.int .u64 (n5 : Int))).heap[w.heap.size + 1]? = _ := ((Below.heap_setCell _ ⟨w.heap.size, 3, none⟩ (.int .u64 (n5 : Int)) _ (by simp)).trans ((Below.heap_setCell _ ⟨w.heap.size, 2, none⟩ (.int .i64 (n4 : Int)) _ (by simp)).trans ((Below.heap_setCell _ ⟨w.heap.size, 1, none⟩ (.int .u64 (n3 : Int)) _ (by simp)).trans hT5)))
  have hBs : Below w.heap.size w (((W5.setCell ⟨w.heap.size, 1, none⟩ (.int .u64 (n3 : Int))).setCell ⟨w.heap.size, 2, none⟩ (.int .i64 (n4 : Int))).setCell ⟨w.heap.size, 3, none⟩ (.int .u64 (n5 : Int))) := (((hB5.setCell (p := ⟨w.heap.size, 1, none⟩) (Nat.le_refl _) (.int .u64 (n3 : Int))).setCell (p := ⟨w.heap.size, 2, none⟩) (Nat.le_refl _) (.int .i64 (n4 : Int))).setCell (p := ⟨w.heap.size, 3, none⟩) (Nat.le_refl _) (.int .u64 (n5 : Int)))
  clear x0 x1 x2 x3 x4 xf hT5 hB5
  generalize (((W5.setCell ⟨w.heap.size, 1, none⟩ (.int .u64 (n3 : Int))).setCell ⟨w.heap.size, 2, none⟩ (.int .i64 (n4 : Int))).setCell ⟨w.heap.size, 3, none⟩ (.int .u64 (n5 : Int))) = V11 at hXs hTs hBs ⊢
  have HX11 := Lib.hid hXs; clear hXs
  have hT11 := hTs; clear hTs
  have hB11 := hBs; clear hBs
  refine (take_at (w.heap.size + 1) g o 489 (d + 2) 2 23 487 d 25 n6 l _ E6.out hT11 (Hby.out _ hB11) (by decide) (by decide) (by decide) (by omega) (by decide) (by decide) (by omega) (by decide)).mono ?_
  rintro e W6 ⟨rfl, hT6, hf6⟩
  have hlx6 := blk_lt HX11.out
  have hlt6 := blk_lt hT11
  have hB6 := hB11.trans (hf6.own (B := w.heap.size) (by omega) (by omega))
  have hX6 := (hf6.block w.heap.size hlx6 (by omega)).trans HX11.out
  have HX6 := Lib.hid hX6
  clear hf6 hT11 hB11
  obtain ⟨y0, yf⟩ := cell_of_one hT6
  obtain ⟨x0, x1, x2, x3, x4, xf⟩ := cells5 hX6
  clear hX6 hT6
  by_cases hbig : 479 < n6
  · have hbi : (479 : Int) < (n6 : Int) := by omega
    rw [if_pos hbig] at Hrd
    go_wp2_with fail
    have hXs : (((((W6.setCell ⟨w.heap.size, 0, none⟩ (.int .i64 0)).setCell ⟨w.heap.size, 1, none⟩ (.int .u64 0)).setCell ⟨w.heap.size, 2, none⟩ (.int .i64 0)).setCell ⟨w.heap.size, 3, none⟩ (.int .u64 0)).setCell ⟨w.heap.size, 4, none⟩ (.slice none 0 0)).heap[w.heap.size]? = some (.cells #[.int .i64 0, .int .u64 0, .int .i64 0, .int .u64 0, .slice none 0 0] 54 (0, 0)) :=
      blk_set (blk_set (blk_set (blk_set (blk_set HX6.out 0 _) 1 _) 2 _) 3 _) 4 _
    have hBs : Below w.heap.size w (((((W6.setCell ⟨w.heap.size, 0, none⟩ (.int .i64 0)).setCell ⟨w.heap.size, 1, none⟩ (.int .u64 0)).setCell ⟨w.heap.size, 2, none⟩ (.int .i64 0)).setCell ⟨w.heap.size, 3, none⟩ (.int .u64 0)).setCell ⟨w.heap.size, 4, none⟩ (.slice none 0 0)) :=
      ((((hB6.setCell (p := ⟨w.heap.size, 0, none⟩) (Nat.le_refl _) _).setCell (p := ⟨w.heap.size, 1, none⟩) (Nat.le_refl _) _).setCell (p := ⟨w.heap.size, 2, none⟩) (Nat.le_refl _) _).setCell (p := ⟨w.heap.size, 3, none⟩) (Nat.le_refl _) _).setCell (p := ⟨w.heap.size, 4, none⟩) (Nat.le_refl _) _
    generalize ((((W6.setCell ⟨w.heap.size, 0, none⟩ (.int .i64 0)).setCell ⟨w.heap.size, 1, none⟩ (.int .u64 0)).setCell ⟨w.heap.size, 2, none⟩ (.int .i64 0)).setCell ⟨w.heap.size, 3, none⟩ (.int .u64 0)).setCell ⟨w.heap.size, 4, none⟩ (.slice none 0 0) = V at hXs hBs ⊢
    obtain ⟨z0, z1, z2, z3, z4, zf⟩ := cells5 hXs
    refine bodyPost_ret (v := .tuple #[.agg #[.int .i64 0, .int .u64 0, .int .i64 0, .int .u64 0, .slice none 0 0], .bool false]) ?_ rfl (.inl ⟨Hrd.out, rfl, hBs⟩)
    simp [results, Try.results138, go_sem, z0, z1, z2, z3, z4]
  · have hbi : ¬ (479 : Int) < (n6 : Int) := by omega
    rw [if_neg hbig] at Hrd
    have hpart := bytes_part (Hby.out _ hB6) 25 n6 (by omega)
    have hlp := hpart.len
    go_wp2_with fail
    refine (Clone_at (o + 25) n6 d _ W6 hpart (by omega)).mono ?_
    rintro e W7 ⟨A7, c7, rfl, hown7, hb7⟩
    have hX7 := (hb7.block _ (blk_lt HX6.out)).trans HX6.out
    have hB7 := Bthen hB6 hb7
    have hz6 := hB6.size
    obtain ⟨x0, x1, x2, x3, x4, xf⟩ := cells5 hX7
    have HX7 := Lib.hid hX7; clear hX7
    have Hown7 := Lib.hid hown7; clear hown7
    go_wp2_with fail
    have hXs : ((((((W7.setCell ⟨w.heap.size, 4, none⟩ (.slice A7 n6 c7)).setCell ⟨w.heap.size, 0, none⟩ (.int .i64 (n1 : Int))).setCell ⟨w.heap.size, 1, none⟩ (.int .u64 (n3 : Int))).setCell ⟨w.heap.size, 2, none⟩ (.int .i64 (n4 : Int))).setCell ⟨w.heap.size, 3, none⟩ (.int .u64 (n5 : Int))).setCell ⟨w.heap.size, 4, none⟩ (.slice A7 n6 c7)).heap[w.heap.size]? = some (.cells #[.int .i64 (n1 : Int), .int .u64 (n3 : Int), .int .i64 (n4 : Int), .int .u64 (n5 : Int), .slice A7 n6 c7] 54 (0, 0)) :=
      blk_set (blk_set (blk_set (blk_set (blk_set (blk_set HX7.out 4 _) 0 _) 1 _) 2 _) 3 _) 4 _
    have hFs : Frame (fun k => k = w.heap.size) W7 ((((((W7.setCell ⟨w.heap.size, 4, none⟩ (.slice A7 n6 c7)).setCell ⟨w.heap.size, 0, none⟩ (.int .i64 (n1 : Int))).setCell ⟨w.heap.size, 1, none⟩ (.int .u64 (n3 : Int))).setCell ⟨w.heap.size, 2, none⟩ (.int .i64 (n4 : Int))).setCell ⟨w.heap.size, 3, none⟩ (.int .u64 (n5 : Int))).setCell ⟨w.heap.size, 4, none⟩ (.slice A7 n6 c7)) :=
      Frame.setCell (Frame.setCell (Frame.setCell (Frame.setCell (Frame.setCell (Frame.setCell (S := fun k => k = w.heap.size) (Frame.refl _ W7) (.inl rfl) _) (.inl rfl) _) (.inl rfl) _) (.inl rfl) _) (.inl rfl) _) (.inl rfl) _
    generalize (((((W7.setCell ⟨w.heap.size, 4, none⟩ (.slice A7 n6 c7)).setCell ⟨w.heap.size, 0, none⟩ (.int .i64 (n1 : Int))).setCell ⟨w.heap.size, 1, none⟩ (.int .u64 (n3 : Int))).setCell ⟨w.heap.size, 2, none⟩ (.int .i64 (n4 : Int))).setCell ⟨w.heap.size, 3, none⟩ (.int .u64 (n5 : Int))).setCell ⟨w.heap.size, 4, none⟩ (.slice A7 n6 c7) = V at hXs hFs ⊢
    have hlt := blk_lt HX6.out
    have hownV := own_frame Hown7.out hFs (fun k hk => by omega)
    have hBV := hB7.trans (hFs.own (B := w.heap.size) (Nat.le_refl _) hB7.size)
    obtain ⟨z0, z1, z2, z3, z4, zf⟩ := cells5 hXs
    have hrd : readS l = some ⟨(n1 : Int), n3, (n4 : Int), n5, (l.drop 25).take n6⟩ := Hrd.out
    refine bodyPost_ret (v := .tuple #[.agg #[.int .i64 (n1 : Int), .int .u64 (n3 : Int), .int .i64 (n4 : Int), .int .u64 (n5 : Int), .slice A7 n6 c7], .bool true]) ?_ rfl (.inr ⟨_, A7, c7, hrd, ?_, ?_, hBV⟩)
    · simp [results, Try.results138, go_sem, z0, z1, z2, z3, z4]
    · unfold secV; simp only [hlp]
    · simp only [hlp]; exact own_mono hownV hz6

end Go.Proofs.Ytdjndeleafhglaa
namespace Go.Proofs.Ytdjndeleafhglaa
open Go.RowKit

/-- What Decode answers. -/
def DecPost (r : Int × Sec) (w : World) (e : Ending) (w' : World) : Prop :=
  ∃ A c', e = .returned (.tuple #[secV r.2 A c', .int .i64 r.1]) ∧ w'.ownsRow w.heap.size 5 1 (.slice A r.2.body.length c') r.2.body.length (bytesV r.2.body) ∧ Below w.heap.size w w'
theorem DecPost.zero {f : Int} {w w' : World} (hb : Below w.heap.size w w') : DecPost (f, secZero) w (.returned (.tuple #[.agg #[.int .i64 0, .int .u64 0, .int .i64 0, .int .u64 0, .slice none 0 0], .int .i64 f])) w' :=
  ⟨none, 0, rfl, World.ownsRow_nil _ _ _ _, hb⟩

section
variable {w : World} {u : Nat} {K : SU} {S : Nat → Prop}
set_option maxRecDepth 100000 in
theorem Decode_nil (p : Int) (A : Option Addr) (n c : Nat) (w : World) :
    Calls Try.prog 58 #[.pointer none, .int .i64 p, .slice A n c] w fun e w' => DecPost (1, secZero) w e w' := by
  go_enter Try.func58, Try.ntmps58
  go_wp2_with fail
  refine (none_nil _).mono ?_; rintro e w1 ⟨rfl, rfl⟩
  go_wp2_with fail
  refine bodyPost_ret (v := .tuple #[.agg #[.int .i64 0, .int .u64 0, .int .i64 0, .int .u64 0, .slice none 0 0], .int .i64 1]) ?_ rfl (DecPost.zero ?_)
  · simp [results, Try.results58, go_sem]
  · ((repeat (first | (with_reducible exact Bnil _) | (with_reducible assumption) | (with_reducible refine Bset ?_ ?_ _) | (with_reducible refine Bnew ?_ _) | (with_reducible refine Bdrew ?_) | (with_reducible refine Bthen ?_ (by assumption)))); all_goals (simp; try omega))

set_option maxRecDepth 100000 in
theorem Decode_form (p : Int) (A : Option Addr) (n c : Nat) (w : World) (u : Nat) (h : n ≠ 512) :
    Calls Try.prog 58 #[.pointer (some ⟨u, 0, none⟩), .int .i64 p, .slice A n c] w fun e w' => DecPost (4, secZero) w e w' := by
  have hnb : ((n : Int) != 512) = true := by simp; omega
  go_enter Try.func58, Try.ntmps58
  go_wp2_with fail
  refine (none_any _ _).mono ?_; rintro e w1 ⟨rfl, rfl⟩
  go_wp2_with fail
  refine bodyPost_ret (v := .tuple #[.agg #[.int .i64 0, .int .u64 0, .int .i64 0, .int .u64 0, .slice none 0 0], .int .i64 4]) ?_ rfl (DecPost.zero ?_)
  · simp [results, Try.results58, go_sem]
  · ((repeat (first | (with_reducible exact Bnil _) | (with_reducible assumption) | (with_reducible refine Bset ?_ ?_ _) | (with_reducible refine Bnew ?_ _) | (with_reducible refine Bdrew ?_) | (with_reducible refine Bthen ?_ (by assumption)))); all_goals (simp; try omega))

theorem five_set {w : World} {X : Nat} {a b c d e : Value} {t : TypeId} (h : w.heap[X]? = some (.cells #[a, b, c, d, e] t (0, 0))) (v0 v1 v2 v3 v4 : Value) :
    ∃ V, ((((w.setCell ⟨X, 0, none⟩ v0).setCell ⟨X, 1, none⟩ v1).setCell ⟨X, 2, none⟩ v2).setCell ⟨X, 3, none⟩ v3).setCell ⟨X, 4, none⟩ v4 = V ∧ V.heap[X]? = some (.cells #[v0, v1, v2, v3, v4] t (0, 0)) ∧ Frame (fun k => k = X) w V :=
  ⟨_, rfl, blk_set (blk_set (blk_set (blk_set (blk_set h 0 _) 1 _) 2 _) 3 _) 4 _,
    Frame.setCell (Frame.setCell (Frame.setCell (Frame.setCell (Frame.setCell (S := fun k => k = X) (Frame.refl _ w) (.inl rfl) _) (.inl rfl) _) (.inl rfl) _) (.inl rfl) _) (.inl rfl) _⟩
theorem zero_cells {w w1 : World} (hb : Below (w.heap.size + 1) (w.alloc (.cells #[.int .i64 0, .int .u64 0, .int .i64 0, .int .u64 0, .slice none 0 0] 54)) w1) :
    w1.heap[w.heap.size]? = some (.cells #[.int .i64 0, .int .u64 0, .int .i64 0, .int .u64 0, .slice none 0 0] 54 (0, 0)) :=
  (hb.block _ (by omega)).trans (heap_alloc_new w _)

set_option maxRecDepth 100000 in
set_option maxHeartbeats 1000000 in
theorem Decode_blank (p : Int) (g o c : Nat) (l : List UInt8) (u : Nat) (w : World) (hb : BytesAt w (some ⟨g, o, none⟩) 512 l) (hc : 512 ≤ c) (hl : l = blankS) :
    Calls Try.prog 58 #[.pointer (some ⟨u, 0, none⟩), .int .i64 p, .slice (some ⟨g, o, none⟩) 512 c] w fun e w' => DecPost (7, secZero) w e w' := by
  have hd : decide (l = blankS) = true := by simpa using hl
  have Hb := Lib.hid hb; clear hb hl
  go_enter Try.func58, Try.ntmps58
  go_wp2_with fail
  refine (none_any _ _).mono ?_; rintro e w1 ⟨rfl, rfl⟩
  go_wp2_with fail
  refine (IsBlank_any (some ⟨g, o, none⟩) 512 c l _ (Hb.out.below (Bbox _ _)) hc (by decide)).mono ?_
  rintro e w1 ⟨rfl, hb1⟩
  rw [World.size_alloc] at hb1
  have hx := zero_cells hb1
  obtain ⟨z0, z1, z2, z3, z4, zf⟩ := cells5 hx
  have hB1 : Below w.heap.size w w1 := (Bbox w _).trans (hb1.mono (Nat.le_succ _))
  go_wp2_with fail
  obtain ⟨V, hV, hXs, hFs⟩ := five_set hx (.int .i64 0) (.int .u64 0) (.int .i64 0) (.int .u64 0) (.slice none 0 0)
  rw [hV]
  obtain ⟨y0, y1, y2, y3, y4, yf⟩ := cells5 hXs
  refine bodyPost_ret (v := .tuple #[.agg #[.int .i64 0, .int .u64 0, .int .i64 0, .int .u64 0, .slice none 0 0], .int .i64 7]) ?_ rfl (DecPost.zero (hB1.trans (hFs.own (Nat.le_refl _) hB1.size)))
  simp [results, Try.results58, go_sem, y0, y1, y2, y3, y4]

/-- The worlds of a region: x, the sector that was read, and the result's box lie where they lay. -/
theorem box_facts {W : World} {X : Nat} {a b c d e : Value} {t : TypeId} (h : W.heap[X]? = some (.cells #[a, b, c, d, e] t (0, 0))) :
    ∀ x : InS (BelowW W), x.w.cell? ⟨X, 0, none⟩ = some a ∧ x.w.cell? ⟨X, 1, none⟩ = some b ∧ x.w.cell? ⟨X, 2, none⟩ = some c ∧ x.w.cell? ⟨X, 3, none⟩ = some d ∧ x.w.cell? ⟨X, 4, none⟩ = some e := fun x => by
  obtain ⟨h0, h1, h2, h3, h4, _⟩ := cells5 h
  have hl := blk_lt h
  exact ⟨(inB_cell x hl).trans h0, (inB_cell x hl).trans h1, (inB_cell x hl).trans h2, (inB_cell x hl).trans h3, (inB_cell x hl).trans h4⟩

set_option maxRecDepth 100000 in
set_option maxHeartbeats 1000000 in
theorem Decode_none (p : Int) (g o d : Nat) (l : List UInt8) (u : Nat) (w : World) (hb : BytesAt w (some ⟨g, o, none⟩) 512 l) (hd : 487 ≤ d) (hl : l ≠ blankS) (hr : readS l = none) :
    Calls Try.prog 58 #[.pointer (some ⟨u, 0, none⟩), .int .i64 p, .slice (some ⟨g, o, none⟩) 512 (d + 25)] w fun e w' => DecPost (11, secZero) w e w' := by
  have hdb : decide (l = blankS) = false := by simpa using hl
  have Hb := Lib.hid hb; clear hb
  have Hr := Lib.hid hr; clear hr hl
  go_enter Try.func58, Try.ntmps58
  go_wp2_with fail
  refine (none_any _ _).mono ?_; rintro e w1 ⟨rfl, rfl⟩
  go_wp2_with fail
  refine (IsBlank_any (some ⟨g, o, none⟩) 512 (d + 25) l _ (Hb.out.below (Bbox _ _)) (by omega) (by decide)).mono ?_
  rintro e w1 ⟨rfl, hb1⟩
  rw [World.size_alloc] at hb1
  have hx := zero_cells hb1
  have hB1 : Below w.heap.size w w1 := (Bbox w _).trans (hb1.mono (Nat.le_succ _))
  go_wp2_with fail
  refine (read_any g o d l w1 (Hb.out.below hB1) hd).mono ?_
  rintro e w2 hp
  rcases hp with ⟨_, rfl, hb2⟩ | ⟨x, A, c', hs, _⟩
  case inr => rw [Hr.out] at hs; cases hs
  have hx2 := (hb2.block _ (blk_lt hx)).trans hx
  have hB2 := Bthen hB1 hb2
  unfold secV secZero
  go_wp2_with fail
  have hx3 := (Below.heap_alloc w2 (.cells #[.int .i64 0, .int .u64 0, .int .i64 0, .int .u64 0, .slice none 0 0] 54) _ (blk_lt hx2)).trans hx2
  have hB3 : Below w.heap.size w (w2.alloc (.cells #[.int .i64 0, .int .u64 0, .int .i64 0, .int .u64 0, .slice none 0 0] 54)) := Bnew hB2 _
  generalize w2.alloc (.cells #[.int .i64 0, .int .u64 0, .int .i64 0, .int .u64 0, .slice none 0 0] 54) = w3 at hx3 hB3 ⊢
  clear hx hx2 hb1 hb2
  refine wp_region_in (BelowW w3) [(0, true), (1, true), (2, true), (3, true), (4, true), (5, false), (6, true), (7, true), (8, true), (9, true), (10, true), (12, true), (13, true), (11, false), (14, false), (15, true), (16, true), (17, true), (18, true), (19, true), (20, true), (21, true), (22, true), (23, false), (24, true), (25, true)] (by kernel_rfl) (by kernel_rfl) (fun _ _ _ _ _ h => h) (inB_drew _) (fun hne => ?_)
  simp only [permOps, List.map_cons, List.map_nil, List.getD_cons_zero, List.getD_cons_succ]
  (repeat ((with_reducible refine wpPerm_F ?_); intro K hK; go_simp; refine hK _ _ ?_; clear hK K))
  (with_reducible refine wpPerm_G ?_); intro K K' hK hK'; go_simp
  (refine hK' _ _ ?_; clear hK hK' K K')
  (repeat ((with_reducible refine wpPerm_F ?_); intro K hK; go_simp; refine hK _ _ ?_; clear hK K))
  (with_reducible refine wpPerm_G ?_); intro K K' hK hK'; go_simp
  (refine hK' _ _ ?_; clear hK hK' K K')
  (with_reducible refine wpPerm_G ?_); intro K K' hK hK'; go_simp
  (refine hK' _ _ ?_; clear hK hK' K K')
  (repeat ((with_reducible refine wpPerm_F ?_); intro K hK; go_simp; refine hK _ _ ?_; clear hK K))
  (with_reducible refine wpPerm_G ?_); intro K K' hK hK'; go_simp
  (refine hK' _ _ ?_; clear hK hK' K K')
  (repeat ((with_reducible refine wpPerm_F ?_); intro K hK; go_simp; refine hK _ _ ?_; clear hK K))
  refine wpPerm_nil ?_
  obtain ⟨z0, z1, z2, z3, z4, zf⟩ := cells5 hx3
  go_wp2_with fail
  obtain ⟨V, hV, hXs, hFs⟩ := five_set hx3 (.int .i64 0) (.int .u64 0) (.int .i64 0) (.int .u64 0) (.slice none 0 0)
  rw [hV]
  obtain ⟨y0, y1, y2, y3, y4, yf⟩ := cells5 hXs
  refine bodyPost_ret (v := .tuple #[.agg #[.int .i64 0, .int .u64 0, .int .i64 0, .int .u64 0, .slice none 0 0], .int .i64 11]) ?_ rfl (DecPost.zero (hB3.trans (hFs.own (Nat.le_refl _) hB3.size)).drew)
  simp [results, Try.results58, go_sem, y0, y1, y2, y3, y4]

end
end Go.Proofs.Ytdjndeleafhglaa
namespace Go.Proofs.Ytdjndeleafhglaa
open Go.RowKit

section
variable {w : World} {u : Nat} {K : SU} {S : Nat → Prop}
set_option maxRecDepth 100000 in
set_option maxHeartbeats 2000000 in
theorem Decode_right (p : Int) (g o d : Nat) (l : List UInt8) (x : Sec) (hb : BytesAt w (some ⟨g, o, none⟩) 512 l) (hd : 487 ≤ d) (hl : l ≠ blankS) (hr : readS l = some x) (hri : rightS p x ≠ 0) :
    Calls Try.prog 58 #[.pointer (some ⟨u, 0, none⟩), .int .i64 p, .slice (some ⟨g, o, none⟩) 512 (d + 25)] w fun e w' => DecPost (11, secZero) w e w' := by
  have hdb : decide (l = blankS) = false := by simpa using hl
  have hd1 : (504 : Int) ≤ (d : Int) + 25 := by omega
  have hd2 : ¬ (d + 25 = 504) := by omega
  have hd3 : ¬ (d = 479) := by omega
  have hri0 : (rightS p x != 0) = true := by simpa using hri
  generalize hrs : rightS p x = rr at hri hri0
  have Hright : Hid (∀ (A : Option Addr) (c : Nat) W, Calls Try.prog 139 #[.int .i64 p, secV x A c] W fun e w' => e = .returned (.int .i64 rr) ∧ Below W.heap.size W w') := Lib.hid fun A c W => by rw [← hrs]; exact right_any p x A c W
  clear hrs hri
  have Hb := Lib.hid hb; clear hb
  have Hr := Lib.hid hr; clear hr hl
  go_enter Try.func58, Try.ntmps58
  go_wp2_with fail
  refine (none_any _ _).mono ?_; rintro e w1 ⟨rfl, rfl⟩
  go_wp2_with fail
  refine (IsBlank_any (some ⟨g, o, none⟩) 512 (d + 25) l _ (Hb.out.below (Bbox _ _)) (by omega) (by decide)).mono ?_
  rintro e w1 ⟨rfl, hb1⟩
  rw [World.size_alloc] at hb1
  have hx := zero_cells hb1
  have hB1 : Below w.heap.size w w1 := (Bbox w _).trans (hb1.mono (Nat.le_succ _))
  go_wp2_with fail
  refine (read_any g o d l w1 (Hb.out.below hB1) hd).mono ?_
  rintro e w2 hp
  rcases hp with ⟨hs, _⟩ | ⟨x', A, c', hs, rfl, hown2, hb2⟩
  case inl => rw [Hr.out] at hs; cases hs
  obtain rfl : x = x' := Option.some.inj (Hr.out.symm.trans hs)
  have hx2 := (hb2.block _ (blk_lt hx)).trans hx
  have hB2 := Bthen hB1 hb2
  have hz1 := hB1.size
  have hz1' := blk_lt hx
  obtain ⟨xk, xl, xq, xg, xb⟩ := x
  have Hright := Lib.hid Hright.out
  unfold secV at Hright
  unfold secV
  simp only at hown2
  simp only
  go_wp2_with fail
  have hx3 := (Below.heap_alloc w2 (.cells #[.int .i64 xk, .int .u64 (xl : Int), .int .i64 xq, .int .u64 (xg : Int), .slice A xb.length c'] 54) _ (blk_lt hx2)).trans hx2
  have hy3 := heap_alloc_new w2 (.cells #[.int .i64 xk, .int .u64 (xl : Int), .int .i64 xq, .int .u64 (xg : Int), .slice A xb.length c'] 54)
  have hb3 : Below w2.heap.size w2 (w2.alloc (.cells #[.int .i64 xk, .int .u64 (xl : Int), .int .i64 xq, .int .u64 (xg : Int), .slice A xb.length c'] 54)) := Bbox _ _
  generalize w2.alloc (.cells #[.int .i64 xk, .int .u64 (xl : Int), .int .i64 xq, .int .u64 (xg : Int), .slice A xb.length c'] 54) = w3 at hx3 hy3 hb3 ⊢
  have hB3 := Bthen hB2 hb3
  have hown3 := own_below hown2 hb3
  have hbody := BytesAt.own hown3
  have hbytes := Hb.out.below hB3
  clear hx hx2 hb1 hb2 hown2 hs
  have hbox := box_facts hy3
  have hbox0 := fun x => (hbox x).1
  have hbox1 := fun x => (hbox x).2.1
  have hbox2 := fun x => (hbox x).2.2.1
  have hbox3 := fun x => (hbox x).2.2.2.1
  have hbox4 := fun x => (hbox x).2.2.2.2
  have Hown3 := Lib.hid hown3
  have Hbody := Lib.hid hbody
  have Hbytes := Lib.hid hbytes
  clear hbox hown3 hbody hbytes
  refine wp_region_in (BelowW w3) [(0, true), (1, true), (2, true), (3, true), (4, true), (5, false), (6, true), (7, true), (8, true), (9, true), (10, true), (12, true), (13, true), (11, false), (14, false), (15, true), (16, true), (17, true), (18, true), (19, true), (20, true), (21, true), (22, true), (23, false), (24, true), (25, true)] (by kernel_rfl) (by kernel_rfl) (fun _ _ _ _ _ h => h) (inB_drew _) (fun hne => ?_)
  simp only [permOps, List.map_cons, List.map_nil, List.getD_cons_zero, List.getD_cons_succ]
  (repeat ((with_reducible refine wpPerm_F ?_); intro K hK; go_simp; refine hK _ _ ?_; clear hK K))
  (with_reducible refine wpPerm_G ?_); intro K K' hK hK'; go_simp
  refine (Hright.out A c' _).mono ?_
  rintro e y1 ⟨rfl, hy1⟩
  have hW1 : Below w3.heap.size w3 y1 := Bthen (Bdrew (Bnil w3)) hy1
  (refine hK _ _ ?_; clear hK hK' K K')
  refine ⟨inB_more hW1, ?_⟩
  (repeat ((with_reducible refine wpPerm_F ?_); intro K hK; go_simp; refine hK _ _ ?_; clear hK K))
  (with_reducible refine wpPerm_G ?_); intro K K' hK hK'; go_simp
  (refine hK' _ _ ?_; clear hK hK' K K')
  (repeat ((with_reducible refine wpPerm_F ?_); intro K hK; go_simp; refine hK _ _ ?_; clear hK K))
  (with_reducible refine wpPerm_G ?_); intro K K' hK hK'; go_simp
  (refine hK' _ _ ?_; clear hK hK' K K')
  (repeat ((with_reducible refine wpPerm_F ?_); intro K hK; go_simp; refine hK _ _ ?_; clear hK K))
  (with_reducible refine wpPerm_G ?_); intro K K' hK hK'; go_simp
  (refine hK' _ _ ?_; clear hK hK' K K')
  (repeat ((with_reducible refine wpPerm_F ?_); intro K hK; go_simp; refine hK _ _ ?_; clear hK K))
  refine wpPerm_nil ?_
  have hX := (hW1.block _ (blk_lt hx3)).trans hx3
  have hBf := hB3.trans (hW1.mono hB3.size)
  obtain ⟨z0, z1, z2, z3, z4, zf⟩ := cells5 hX
  clear hbox0 hbox1 hbox2 hbox3 hbox4
  go_wp2_with fail
  obtain ⟨V, hV, hXs, hFs⟩ := five_set hX (.int .i64 0) (.int .u64 0) (.int .i64 0) (.int .u64 0) (.slice none 0 0)
  rw [hV]
  obtain ⟨y0, y1', y2', y3', y4', yf⟩ := cells5 hXs
  refine bodyPost_ret (v := .tuple #[.agg #[.int .i64 0, .int .u64 0, .int .i64 0, .int .u64 0, .slice none 0 0], .int .i64 11]) ?_ rfl (DecPost.zero (hBf.trans (hFs.own (Nat.le_refl _) hBf.size)))
  simp [results, Try.results58, go_sem, y0, y1', y2', y3', y4']

set_option maxRecDepth 100000 in
set_option maxHeartbeats 2000000 in
theorem Decode_text (p : Int) (g o d : Nat) (l : List UInt8) (x : Sec) (hb : BytesAt w (some ⟨g, o, none⟩) 512 l) (hd : 487 ≤ d) (hl : l ≠ blankS) (hr : readS l = some x) (hri : rightS p x = 0) (hsm : textS p x ≠ l.take 504) :
    Calls Try.prog 58 #[.pointer (some ⟨u, 0, none⟩), .int .i64 p, .slice (some ⟨g, o, none⟩) 512 (d + 25)] w fun e w' => DecPost (11, secZero) w e w' := by
  have hdb : decide (l = blankS) = false := by simpa using hl
  have hd1 : (504 : Int) ≤ (d : Int) + 25 := by omega
  have hd2 : ¬ (d + 25 = 504) := by omega
  have hd3 : ¬ (d = 479) := by omega
  have Hright : Hid (∀ (A : Option Addr) (c : Nat) W, Calls Try.prog 139 #[.int .i64 p, secV x A c] W fun e w' => e = .returned (.int .i64 0) ∧ Below W.heap.size W w') := Lib.hid fun A c W => by rw [← hri]; exact right_any p x A c W
  have Hwr : Hid (∀ (A : Option Addr) (c : Nat) W, BytesAt W A x.body.length x.body → Calls Try.prog 141 #[.int .i64 p, secV x A c] W fun e w' => ∃ g', e = .returned (.slice (some ⟨g', 0, none⟩) 504 504) ∧
      w'.ownsRow W.heap.size 5 1 (.slice (some ⟨g', 0, none⟩) 504 504) 504 (bytesV (textS p x)) ∧ Below W.heap.size W w') := Lib.hid fun A c W hb => written_all p x A c W hri hb
  clear hri
  have Hsm : Hid (decide (textS p x = l.take 504) = false) := Lib.hid (by simpa using hsm)
  clear hsm
  have Hb := Lib.hid hb; clear hb
  have Hr := Lib.hid hr; clear hr hl
  go_enter Try.func58, Try.ntmps58
  go_wp2_with fail
  refine (none_any _ _).mono ?_; rintro e w1 ⟨rfl, rfl⟩
  go_wp2_with fail
  refine (IsBlank_any (some ⟨g, o, none⟩) 512 (d + 25) l _ (Hb.out.below (Bbox _ _)) (by omega) (by decide)).mono ?_
  rintro e w1 ⟨rfl, hb1⟩
  rw [World.size_alloc] at hb1
  have hx := zero_cells hb1
  have hB1 : Below w.heap.size w w1 := (Bbox w _).trans (hb1.mono (Nat.le_succ _))
  go_wp2_with fail
  refine (read_any g o d l w1 (Hb.out.below hB1) hd).mono ?_
  rintro e w2 hp
  rcases hp with ⟨hs, _⟩ | ⟨x', A, c', hs, rfl, hown2, hb2⟩
  case inl => rw [Hr.out] at hs; cases hs
  obtain rfl : x = x' := Option.some.inj (Hr.out.symm.trans hs)
  have hx2 := (hb2.block _ (blk_lt hx)).trans hx
  have hB2 := Bthen hB1 hb2
  have hz1 := hB1.size
  have hz1' := blk_lt hx
  obtain ⟨xk, xl, xq, xg, xb⟩ := x
  have Hright := Lib.hid Hright.out
  unfold secV at Hright Hwr
  unfold secV
  simp only at hown2
  simp only
  go_wp2_with fail
  have hx3 := (Below.heap_alloc w2 (.cells #[.int .i64 xk, .int .u64 (xl : Int), .int .i64 xq, .int .u64 (xg : Int), .slice A xb.length c'] 54) _ (blk_lt hx2)).trans hx2
  have hy3 := heap_alloc_new w2 (.cells #[.int .i64 xk, .int .u64 (xl : Int), .int .i64 xq, .int .u64 (xg : Int), .slice A xb.length c'] 54)
  have hb3 : Below w2.heap.size w2 (w2.alloc (.cells #[.int .i64 xk, .int .u64 (xl : Int), .int .i64 xq, .int .u64 (xg : Int), .slice A xb.length c'] 54)) := Bbox _ _
  generalize w2.alloc (.cells #[.int .i64 xk, .int .u64 (xl : Int), .int .i64 xq, .int .u64 (xg : Int), .slice A xb.length c'] 54) = w3 at hx3 hy3 hb3 ⊢
  have hB3 := Bthen hB2 hb3
  have hown3 := own_below hown2 hb3
  have hbody := BytesAt.own hown3
  have hbytes := Hb.out.below hB3
  clear hx hx2 hb1 hb2 hown2 hs
  have hbox := box_facts hy3
  have hbox0 := fun x => (hbox x).1
  have hbox1 := fun x => (hbox x).2.1
  have hbox2 := fun x => (hbox x).2.2.1
  have hbox3 := fun x => (hbox x).2.2.2.1
  have hbox4 := fun x => (hbox x).2.2.2.2
  have Hown3 := Lib.hid hown3
  have Hbody := Lib.hid hbody
  have Hbytes := Lib.hid hbytes
  clear hbox hown3 hbody hbytes
  refine wp_region_in (BelowW w3) [(0, true), (1, true), (2, true), (3, true), (4, true), (5, false), (6, true), (7, true), (8, true), (9, true), (10, true), (12, true), (13, true), (11, false), (14, false), (15, true), (16, true), (17, true), (18, true), (19, true), (20, true), (21, true), (22, true), (23, false), (24, true), (25, true)] (by kernel_rfl) (by kernel_rfl) (fun _ _ _ _ _ h => h) (inB_drew _) (fun hne => ?_)
  simp only [permOps, List.map_cons, List.map_nil, List.getD_cons_zero, List.getD_cons_succ]
  (repeat ((with_reducible refine wpPerm_F ?_); intro K hK; go_simp; refine hK _ _ ?_; clear hK K))
  (with_reducible refine wpPerm_G ?_); intro K K' hK hK'; go_simp
  refine (Hright.out A c' _).mono ?_
  rintro e y1 ⟨rfl, hy1⟩
  have hW1 : Below w3.heap.size w3 y1 := Bthen (Bdrew (Bnil w3)) hy1
  (refine hK _ _ ?_; clear hK hK' K K')
  refine ⟨inB_more hW1, ?_⟩
  (repeat ((with_reducible refine wpPerm_F ?_); intro K hK; go_simp; refine hK _ _ ?_; clear hK K))
  (with_reducible refine wpPerm_G ?_); intro K K' hK hK'; go_simp
  refine (Hwr.out A c' _ (Hbody.out.below hW1)).mono ?_
  rintro e y2 ⟨g2, rfl, hownT, hy2⟩
  have hW2 : Below w3.heap.size w3 y2 := Bthen hW1 hy2
  have HBT := Lib.hid (BytesAt.own hownT); clear hownT
  have Hb504 := Lib.hid (bytes_part (Hbytes.out.below hW2) 0 504 (by decide))
  (refine hK _ _ ?_; clear hK hK' K K')
  refine ⟨inB_more hW2, ?_⟩
  (repeat ((with_reducible refine wpPerm_F ?_); intro K hK; go_simp; refine hK _ _ ?_; clear hK K))
  (with_reducible refine wpPerm_G ?_); intro K K' hK hK'; go_simp
  refine (NSame_any (some ⟨g2, 0, none⟩) (some ⟨g, o, none⟩) 504 504 504 (d + 25) _ _ y2 HBT.out (by decide) Hb504.out (by omega) (by decide) (by decide)).mono ?_
  rintro e y3 ⟨rfl, hy3'⟩
  have hW3 : Below w3.heap.size w3 y3 := Bthen hW2 hy3'
  rw [List.drop_zero, Hsm.out]
  (refine hK _ _ ?_; clear hK hK' K K')
  refine ⟨inB_more hW3, ?_⟩
  (repeat ((with_reducible refine wpPerm_F ?_); intro K hK; go_simp; refine hK _ _ ?_; clear hK K))
  (with_reducible refine wpPerm_G ?_); intro K K' hK hK'; go_simp
  (refine hK' _ _ ?_; clear hK hK' K K')
  (repeat ((with_reducible refine wpPerm_F ?_); intro K hK; go_simp; refine hK _ _ ?_; clear hK K))
  refine wpPerm_nil ?_
  have hX := (hW3.block _ (blk_lt hx3)).trans hx3
  have hBf := hB3.trans (hW3.mono hB3.size)
  obtain ⟨z0, z1, z2, z3, z4, zf⟩ := cells5 hX
  clear hbox0 hbox1 hbox2 hbox3 hbox4
  go_wp2_with fail
  obtain ⟨V, hV, hXs, hFs⟩ := five_set hX (.int .i64 0) (.int .u64 0) (.int .i64 0) (.int .u64 0) (.slice none 0 0)
  rw [hV]
  obtain ⟨y0, y1', y2', y3', y4', yf⟩ := cells5 hXs
  refine bodyPost_ret (v := .tuple #[.agg #[.int .i64 0, .int .u64 0, .int .i64 0, .int .u64 0, .slice none 0 0], .int .i64 11]) ?_ rfl (DecPost.zero (hBf.trans (hFs.own (Nat.le_refl _) hBf.size)))
  simp [results, Try.results58, go_sem, y0, y1', y2', y3', y4']

set_option maxRecDepth 100000 in
set_option maxHeartbeats 2000000 in
theorem Decode_sum (p : Int) (g o d : Nat) (l : List UInt8) (x : Sec) (hK : SuitP w u K S) (hb : BytesAt w (some ⟨g, o, none⟩) 512 l) (hd : 487 ≤ d) (hl : l ≠ blankS) (hr : readS l = some x) (hri : rightS p x = 0) (hsm : textS p x = l.take 504) (hck : checkK K (l.take 504) (l.drop 504) = false) :
    Calls Try.prog 58 #[.pointer (some ⟨u, 0, none⟩), .int .i64 p, .slice (some ⟨g, o, none⟩) 512 (d + 25)] w fun e w' => DecPost (11, secZero) w e w' := by
  have hdb : decide (l = blankS) = false := by simpa using hl
  have hd1 : (504 : Int) ≤ (d : Int) + 25 := by omega
  have hd2 : ¬ (d + 25 = 504) := by omega
  have hd3 : ¬ (d = 479) := by omega
  have Hright : Hid (∀ (A : Option Addr) (c : Nat) W, Calls Try.prog 139 #[.int .i64 p, secV x A c] W fun e w' => e = .returned (.int .i64 0) ∧ Below W.heap.size W w') := Lib.hid fun A c W => by rw [← hri]; exact right_any p x A c W
  have Hwr : Hid (∀ (A : Option Addr) (c : Nat) W, BytesAt W A x.body.length x.body → Calls Try.prog 141 #[.int .i64 p, secV x A c] W fun e w' => ∃ g', e = .returned (.slice (some ⟨g', 0, none⟩) 504 504) ∧
      w'.ownsRow W.heap.size 5 1 (.slice (some ⟨g', 0, none⟩) 504 504) 504 (bytesV (textS p x)) ∧ Below W.heap.size W w') := Lib.hid fun A c W hb => written_all p x A c W hri hb
  clear hri
  have Hsm : Hid (decide (textS p x = l.take 504) = true) := Lib.hid (by simpa using hsm)
  clear hsm
  have Hck : Hid (checkK K (l.take 504) (l.drop 504) = false) := Lib.hid (by exact hck)
  have Hl8 : Hid ((l.drop 504).length ≤ 8) := Lib.hid (by rw [List.length_drop, hb.len]; decide)
  clear hck
  have Hb := Lib.hid hb; clear hb
  have Hr := Lib.hid hr; clear hr hl
  go_enter Try.func58, Try.ntmps58
  go_wp2_with fail
  refine (none_any _ _).mono ?_; rintro e w1 ⟨rfl, rfl⟩
  go_wp2_with fail
  refine (IsBlank_any (some ⟨g, o, none⟩) 512 (d + 25) l _ (Hb.out.below (Bbox _ _)) (by omega) (by decide)).mono ?_
  rintro e w1 ⟨rfl, hb1⟩
  rw [World.size_alloc] at hb1
  have hx := zero_cells hb1
  have hB1 : Below w.heap.size w w1 := (Bbox w _).trans (hb1.mono (Nat.le_succ _))
  go_wp2_with fail
  refine (read_any g o d l w1 (Hb.out.below hB1) hd).mono ?_
  rintro e w2 hp
  rcases hp with ⟨hs, _⟩ | ⟨x', A, c', hs, rfl, hown2, hb2⟩
  case inl => rw [Hr.out] at hs; cases hs
  obtain rfl : x = x' := Option.some.inj (Hr.out.symm.trans hs)
  have hx2 := (hb2.block _ (blk_lt hx)).trans hx
  have hB2 := Bthen hB1 hb2
  have hz1 := hB1.size
  have hz1' := blk_lt hx
  obtain ⟨xk, xl, xq, xg, xb⟩ := x
  have Hright := Lib.hid Hright.out
  unfold secV at Hright Hwr
  unfold secV
  simp only at hown2
  simp only
  go_wp2_with fail
  have hx3 := (Below.heap_alloc w2 (.cells #[.int .i64 xk, .int .u64 (xl : Int), .int .i64 xq, .int .u64 (xg : Int), .slice A xb.length c'] 54) _ (blk_lt hx2)).trans hx2
  have hy3 := heap_alloc_new w2 (.cells #[.int .i64 xk, .int .u64 (xl : Int), .int .i64 xq, .int .u64 (xg : Int), .slice A xb.length c'] 54)
  have hb3 : Below w2.heap.size w2 (w2.alloc (.cells #[.int .i64 xk, .int .u64 (xl : Int), .int .i64 xq, .int .u64 (xg : Int), .slice A xb.length c'] 54)) := Bbox _ _
  generalize w2.alloc (.cells #[.int .i64 xk, .int .u64 (xl : Int), .int .i64 xq, .int .u64 (xg : Int), .slice A xb.length c'] 54) = w3 at hx3 hy3 hb3 ⊢
  have hB3 := Bthen hB2 hb3
  have hown3 := own_below hown2 hb3
  have hbody := BytesAt.own hown3
  have hbytes := Hb.out.below hB3
  clear hx hx2 hb1 hb2 hown2 hs
  have hbox := box_facts hy3
  have hbox0 := fun x => (hbox x).1
  have hbox1 := fun x => (hbox x).2.1
  have hbox2 := fun x => (hbox x).2.2.1
  have hbox3 := fun x => (hbox x).2.2.2.1
  have hbox4 := fun x => (hbox x).2.2.2.2
  have Hown3 := Lib.hid hown3
  have Hbody := Lib.hid hbody
  have Hbytes := Lib.hid hbytes
  clear hbox hown3 hbody hbytes
  refine wp_region_in (BelowW w3) [(0, true), (1, true), (2, true), (3, true), (4, true), (5, false), (6, true), (7, true), (8, true), (9, true), (10, true), (12, true), (13, true), (11, false), (14, false), (15, true), (16, true), (17, true), (18, true), (19, true), (20, true), (21, true), (22, true), (23, false), (24, true), (25, true)] (by kernel_rfl) (by kernel_rfl) (fun _ _ _ _ _ h => h) (inB_drew _) (fun hne => ?_)
  simp only [permOps, List.map_cons, List.map_nil, List.getD_cons_zero, List.getD_cons_succ]
  (repeat ((with_reducible refine wpPerm_F ?_); intro K hK; go_simp; refine hK _ _ ?_; clear hK K))
  (with_reducible refine wpPerm_G ?_); intro K K' hK hK'; go_simp
  refine (Hright.out A c' _).mono ?_
  rintro e y1 ⟨rfl, hy1⟩
  have hW1 : Below w3.heap.size w3 y1 := Bthen (Bdrew (Bnil w3)) hy1
  (refine hK _ _ ?_; clear hK hK' K K')
  refine ⟨inB_more hW1, ?_⟩
  (repeat ((with_reducible refine wpPerm_F ?_); intro K hK; go_simp; refine hK _ _ ?_; clear hK K))
  (with_reducible refine wpPerm_G ?_); intro K K' hK hK'; go_simp
  refine (Hwr.out A c' _ (Hbody.out.below hW1)).mono ?_
  rintro e y2 ⟨g2, rfl, hownT, hy2⟩
  have hW2 : Below w3.heap.size w3 y2 := Bthen hW1 hy2
  have HBT := Lib.hid (BytesAt.own hownT); clear hownT
  have Hb504 := Lib.hid (bytes_part (Hbytes.out.below hW2) 0 504 (by decide))
  (refine hK _ _ ?_; clear hK hK' K K')
  refine ⟨inB_more hW2, ?_⟩
  (repeat ((with_reducible refine wpPerm_F ?_); intro K hK; go_simp; refine hK _ _ ?_; clear hK K))
  (with_reducible refine wpPerm_G ?_); intro K K' hK hK'; go_simp
  refine (NSame_any (some ⟨g2, 0, none⟩) (some ⟨g, o, none⟩) 504 504 504 (d + 25) _ _ y2 HBT.out (by decide) Hb504.out (by omega) (by decide) (by decide)).mono ?_
  rintro e y3 ⟨rfl, hy3'⟩
  have hW3 : Below w3.heap.size w3 y3 := Bthen hW2 hy3'
  rw [List.drop_zero, Hsm.out]
  (refine hK _ _ ?_; clear hK hK' K K')
  refine ⟨inB_more hW3, ?_⟩
  (repeat ((with_reducible refine wpPerm_F ?_); intro K hK; go_simp; refine hK _ _ ?_; clear hK K))
  have Hb8 := Lib.hid (bytes_part (Hbytes.out.below hW3) 504 8 (by decide))
  have Hb504b := Lib.hid (bytes_part (Hbytes.out.below hW3) 0 504 (by decide))
  have hKy := hK.below (hB3.trans (hW3.mono hB3.size))
  (with_reducible refine wpPerm_G ?_); intro K K' hK hK'; go_simp
  refine (Check_any (some ⟨g, o, none⟩) (some ⟨g, o + 504, none⟩) 504 (d + 25) 8 (d - 479) _ _ hKy Hb504b.out Hb8.out (by omega) (by decide) (by decide) (by decide)).mono ?_
  rintro e y4 ⟨rfl, hy4⟩
  have hW4 : Below w3.heap.size w3 y4 := Bthen hW3 hy4
  rw [List.drop_zero, List.take_of_length_le (l := l.drop 504) Hl8.out, Hck.out]
  (refine hK _ _ ?_; clear hK hK' K K')
  refine ⟨inB_more hW4, ?_⟩
  (repeat ((with_reducible refine wpPerm_F ?_); intro K hK; go_simp; refine hK _ _ ?_; clear hK K))
  refine wpPerm_nil ?_
  have hX := (hW4.block _ (blk_lt hx3)).trans hx3
  have hBf := hB3.trans (hW4.mono hB3.size)
  obtain ⟨z0, z1, z2, z3, z4, zf⟩ := cells5 hX
  clear hbox0 hbox1 hbox2 hbox3 hbox4
  go_wp2_with fail
  obtain ⟨V, hV, hXs, hFs⟩ := five_set hX (.int .i64 0) (.int .u64 0) (.int .i64 0) (.int .u64 0) (.slice none 0 0)
  rw [hV]
  obtain ⟨y0, y1', y2', y3', y4', yf⟩ := cells5 hXs
  refine bodyPost_ret (v := .tuple #[.agg #[.int .i64 0, .int .u64 0, .int .i64 0, .int .u64 0, .slice none 0 0], .int .i64 11]) ?_ rfl (DecPost.zero (hBf.trans (hFs.own (Nat.le_refl _) hBf.size)))
  simp [results, Try.results58, go_sem, y0, y1', y2', y3', y4']

set_option maxRecDepth 100000 in
set_option maxHeartbeats 2000000 in
theorem Decode_yes (p : Int) (g o d : Nat) (l : List UInt8) (x : Sec) (hK : SuitP w u K S) (hb : BytesAt w (some ⟨g, o, none⟩) 512 l) (hd : 487 ≤ d) (hl : l ≠ blankS) (hr : readS l = some x) (hri : rightS p x = 0) (hsm : textS p x = l.take 504) (hck : checkK K (l.take 504) (l.drop 504) = true) :
    Calls Try.prog 58 #[.pointer (some ⟨u, 0, none⟩), .int .i64 p, .slice (some ⟨g, o, none⟩) 512 (d + 25)] w fun e w' => DecPost (0, x) w e w' := by
  have hdb : decide (l = blankS) = false := by simpa using hl
  have hd1 : (504 : Int) ≤ (d : Int) + 25 := by omega
  have hd2 : ¬ (d + 25 = 504) := by omega
  have hd3 : ¬ (d = 479) := by omega
  have Hright : Hid (∀ (A : Option Addr) (c : Nat) W, Calls Try.prog 139 #[.int .i64 p, secV x A c] W fun e w' => e = .returned (.int .i64 0) ∧ Below W.heap.size W w') := Lib.hid fun A c W => by rw [← hri]; exact right_any p x A c W
  have Hwr : Hid (∀ (A : Option Addr) (c : Nat) W, BytesAt W A x.body.length x.body → Calls Try.prog 141 #[.int .i64 p, secV x A c] W fun e w' => ∃ g', e = .returned (.slice (some ⟨g', 0, none⟩) 504 504) ∧
      w'.ownsRow W.heap.size 5 1 (.slice (some ⟨g', 0, none⟩) 504 504) 504 (bytesV (textS p x)) ∧ Below W.heap.size W w') := Lib.hid fun A c W hb => written_all p x A c W hri hb
  clear hri
  have Hsm : Hid (decide (textS p x = l.take 504) = true) := Lib.hid (by simpa using hsm)
  clear hsm
  have Hck : Hid (checkK K (l.take 504) (l.drop 504) = true) := Lib.hid (by exact hck)
  have Hl8 : Hid ((l.drop 504).length ≤ 8) := Lib.hid (by rw [List.length_drop, hb.len]; decide)
  clear hck
  have Hb := Lib.hid hb; clear hb
  have Hr := Lib.hid hr; clear hr hl
  go_enter Try.func58, Try.ntmps58
  go_wp2_with fail
  refine (none_any _ _).mono ?_; rintro e w1 ⟨rfl, rfl⟩
  go_wp2_with fail
  refine (IsBlank_any (some ⟨g, o, none⟩) 512 (d + 25) l _ (Hb.out.below (Bbox _ _)) (by omega) (by decide)).mono ?_
  rintro e w1 ⟨rfl, hb1⟩
  rw [World.size_alloc] at hb1
  have hx := zero_cells hb1
  have hB1 : Below w.heap.size w w1 := (Bbox w _).trans (hb1.mono (Nat.le_succ _))
  go_wp2_with fail
  refine (read_any g o d l w1 (Hb.out.below hB1) hd).mono ?_
  rintro e w2 hp
  rcases hp with ⟨hs, _⟩ | ⟨x', A, c', hs, rfl, hown2, hb2⟩
  case inl => rw [Hr.out] at hs; cases hs
  obtain rfl : x = x' := Option.some.inj (Hr.out.symm.trans hs)
  have hx2 := (hb2.block _ (blk_lt hx)).trans hx
  have hB2 := Bthen hB1 hb2
  have hz1 := hB1.size
  have hz1' := blk_lt hx
  obtain ⟨xk, xl, xq, xg, xb⟩ := x
  have Hright := Lib.hid Hright.out
  unfold secV at Hright Hwr
  unfold secV
  simp only at hown2
  simp only
  go_wp2_with fail
  have hx3 := (Below.heap_alloc w2 (.cells #[.int .i64 xk, .int .u64 (xl : Int), .int .i64 xq, .int .u64 (xg : Int), .slice A xb.length c'] 54) _ (blk_lt hx2)).trans hx2
  have hy3 := heap_alloc_new w2 (.cells #[.int .i64 xk, .int .u64 (xl : Int), .int .i64 xq, .int .u64 (xg : Int), .slice A xb.length c'] 54)
  have hb3 : Below w2.heap.size w2 (w2.alloc (.cells #[.int .i64 xk, .int .u64 (xl : Int), .int .i64 xq, .int .u64 (xg : Int), .slice A xb.length c'] 54)) := Bbox _ _
  generalize w2.alloc (.cells #[.int .i64 xk, .int .u64 (xl : Int), .int .i64 xq, .int .u64 (xg : Int), .slice A xb.length c'] 54) = w3 at hx3 hy3 hb3 ⊢
  have hB3 := Bthen hB2 hb3
  have hown3 := own_below hown2 hb3
  have hbody := BytesAt.own hown3
  have hbytes := Hb.out.below hB3
  clear hx hx2 hb1 hb2 hown2 hs
  have hbox := box_facts hy3
  have hbox0 := fun x => (hbox x).1
  have hbox1 := fun x => (hbox x).2.1
  have hbox2 := fun x => (hbox x).2.2.1
  have hbox3 := fun x => (hbox x).2.2.2.1
  have hbox4 := fun x => (hbox x).2.2.2.2
  have Hown3 := Lib.hid hown3
  have Hbody := Lib.hid hbody
  have Hbytes := Lib.hid hbytes
  clear hbox hown3 hbody hbytes
  refine wp_region_in (BelowW w3) [(0, true), (1, true), (2, true), (3, true), (4, true), (5, false), (6, true), (7, true), (8, true), (9, true), (10, true), (12, true), (13, true), (11, false), (14, false), (15, true), (16, true), (17, true), (18, true), (19, true), (20, true), (21, true), (22, true), (23, false), (24, true), (25, true)] (by kernel_rfl) (by kernel_rfl) (fun _ _ _ _ _ h => h) (inB_drew _) (fun hne => ?_)
  simp only [permOps, List.map_cons, List.map_nil, List.getD_cons_zero, List.getD_cons_succ]
  (repeat ((with_reducible refine wpPerm_F ?_); intro K hK; go_simp; refine hK _ _ ?_; clear hK K))
  (with_reducible refine wpPerm_G ?_); intro K K' hK hK'; go_simp
  refine (Hright.out A c' _).mono ?_
  rintro e y1 ⟨rfl, hy1⟩
  have hW1 : Below w3.heap.size w3 y1 := Bthen (Bdrew (Bnil w3)) hy1
  (refine hK _ _ ?_; clear hK hK' K K')
  refine ⟨inB_more hW1, ?_⟩
  (repeat ((with_reducible refine wpPerm_F ?_); intro K hK; go_simp; refine hK _ _ ?_; clear hK K))
  (with_reducible refine wpPerm_G ?_); intro K K' hK hK'; go_simp
  refine (Hwr.out A c' _ (Hbody.out.below hW1)).mono ?_
  rintro e y2 ⟨g2, rfl, hownT, hy2⟩
  have hW2 : Below w3.heap.size w3 y2 := Bthen hW1 hy2
  have HBT := Lib.hid (BytesAt.own hownT); clear hownT
  have Hb504 := Lib.hid (bytes_part (Hbytes.out.below hW2) 0 504 (by decide))
  (refine hK _ _ ?_; clear hK hK' K K')
  refine ⟨inB_more hW2, ?_⟩
  (repeat ((with_reducible refine wpPerm_F ?_); intro K hK; go_simp; refine hK _ _ ?_; clear hK K))
  (with_reducible refine wpPerm_G ?_); intro K K' hK hK'; go_simp
  refine (NSame_any (some ⟨g2, 0, none⟩) (some ⟨g, o, none⟩) 504 504 504 (d + 25) _ _ y2 HBT.out (by decide) Hb504.out (by omega) (by decide) (by decide)).mono ?_
  rintro e y3 ⟨rfl, hy3'⟩
  have hW3 : Below w3.heap.size w3 y3 := Bthen hW2 hy3'
  rw [List.drop_zero, Hsm.out]
  (refine hK _ _ ?_; clear hK hK' K K')
  refine ⟨inB_more hW3, ?_⟩
  (repeat ((with_reducible refine wpPerm_F ?_); intro K hK; go_simp; refine hK _ _ ?_; clear hK K))
  have Hb8 := Lib.hid (bytes_part (Hbytes.out.below hW3) 504 8 (by decide))
  have Hb504b := Lib.hid (bytes_part (Hbytes.out.below hW3) 0 504 (by decide))
  have hKy := hK.below (hB3.trans (hW3.mono hB3.size))
  (with_reducible refine wpPerm_G ?_); intro K K' hK hK'; go_simp
  refine (Check_any (some ⟨g, o, none⟩) (some ⟨g, o + 504, none⟩) 504 (d + 25) 8 (d - 479) _ _ hKy Hb504b.out Hb8.out (by omega) (by decide) (by decide) (by decide)).mono ?_
  rintro e y4 ⟨rfl, hy4⟩
  have hW4 : Below w3.heap.size w3 y4 := Bthen hW3 hy4
  rw [List.drop_zero, List.take_of_length_le (l := l.drop 504) Hl8.out, Hck.out]
  (refine hK _ _ ?_; clear hK hK' K K')
  refine ⟨inB_more hW4, ?_⟩
  (repeat ((with_reducible refine wpPerm_F ?_); intro K hK; go_simp; refine hK _ _ ?_; clear hK K))
  refine wpPerm_nil ?_
  have hX := (hW4.block _ (blk_lt hx3)).trans hx3
  have hY := (hW4.block _ (blk_lt hy3)).trans hy3
  have hBf := hB3.trans (hW4.mono hB3.size)
  have hownf := own_below Hown3.out hW4
  have hlt := blk_lt hx3
  obtain ⟨z0, z1, z2, z3, z4, zf⟩ := cells5 hX
  obtain ⟨v0, v1, v2, v3, v4, vf⟩ := cells5 hY
  clear hbox0 hbox1 hbox2 hbox3 hbox4
  go_wp2_with fail
  obtain ⟨V, hV, hXs, hFs⟩ := five_set hX (.int .i64 xk) (.int .u64 (xl : Int)) (.int .i64 xq) (.int .u64 (xg : Int)) (.slice A xb.length c')
  rw [hV]
  obtain ⟨y0, y1', y2', y3', y4', yf⟩ := cells5 hXs
  refine bodyPost_ret (v := .tuple #[.agg #[.int .i64 xk, .int .u64 (xl : Int), .int .i64 xq, .int .u64 (xg : Int), .slice A xb.length c'], .int .i64 0]) ?_ rfl ⟨A, c', rfl, ?_, hBf.trans (hFs.own (Nat.le_refl _) hBf.size)⟩
  · simp [results, Try.results58, go_sem, y0, y1', y2', y3', y4']
  · exact own_mono (own_frame hownf hFs (fun k hk => by omega)) hz1

theorem part_take (l : List UInt8) (i k : Nat) (h : i + k ≤ 504) : ((l.take 504).drop i).take k = (l.drop i).take k := by
  rw [List.drop_take, List.take_take, Nat.min_eq_left (by omega)]
theorem readS_take (l : List UInt8) : readS (l.take 504) = readS l := by
  unfold readS
  rw [part_take l 23 2 (by decide), part_take l 3 8 (by decide), part_take l 11 4 (by decide), part_take l 15 8 (by decide), List.take_take]
  by_cases h : 479 < getB ((l.drop 23).take 2)
  · rw [if_pos h, if_pos h]
  · rw [if_neg h, if_neg h, part_take l 25 _ (by omega)]
    rfl

/-- Decode, whatever the bytes. -/
theorem Decode_any (p : Int) (g o c : Nat) (l : List UInt8) (hK : SuitP w u K S) (hb : BytesAt w (some ⟨g, o, none⟩) 512 l) (hc : 512 ≤ c) :
    Calls Try.prog 58 #[.pointer (some ⟨u, 0, none⟩), .int .i64 p, .slice (some ⟨g, o, none⟩) 512 c] w fun e w' => DecPost (decK K p l) w e w' := by
  unfold decK
  rw [if_neg (by rw [hb.len]; simp)]
  by_cases hl : l = blankS
  · rw [if_pos hl]; exact Decode_blank p g o c l u w hb hc hl
  · rw [if_neg hl]
    obtain ⟨d, rfl⟩ : ∃ d, c = d + 25 := ⟨c - 25, by omega⟩
    unfold ofS
    rw [readS_take]
    cases hr : readS l with
    | none => exact Decode_none p g o d l u w hb (by omega) hl hr
    | some x =>
      simp only
      by_cases hri : rightS p x = 0
      · by_cases hsm : textS p x = l.take 504
        · rw [if_pos ⟨hri, hsm⟩]
          cases hck : checkK K (l.take 504) (l.drop 504) with
          | false => exact Decode_sum p g o d l x hK hb (by omega) hl hr hri hsm hck
          | true => exact Decode_yes p g o d l x hK hb (by omega) hl hr hri hsm hck
        · rw [if_neg (fun h => hsm h.2)]
          exact Decode_text p g o d l x hb (by omega) hl hr hri hsm
      · rw [if_neg (fun h => hri h.1)]
        exact Decode_right p g o d l x hb (by omega) hl hr hri

end
end Go.Proofs.Ytdjndeleafhglaa
namespace Go.Proofs.Ytdjndeleafhglaa
open Go.RowKit

theorem Clone_none (c : Nat) (w : World) : Calls Try.prog 135 #[.slice none 0 c] w fun e w' => e = .returned (.slice none 0 0) ∧ w = w' := by
  have q22 : ∀ (w : World) (a : Option Addr) (n c n' c' : Nat), (binOp .eql 41 (.slice a n c) (.slice none n' c')).run Try.prog w = .ok (.bool a.isNone) w := fun w a n c n' c' => Lib.run_eql_slice_nil w _ _ a n c n' c' Try.underlying41
  go_enter Try.func135, Try.ntmps135
  go_wp2_with fail
  go_ret
  exact ⟨rfl, rfl⟩

set_option maxRecDepth 100000 in
theorem Real_any (w : World) : Calls Try.prog 59 #[.slice none 0 0] w fun e w' => ∃ u S, e = .returned (.pointer (some ⟨u, 0, none⟩)) ∧ SuitP w' u none S ∧ (∀ k, S k → w.heap.size ≤ k) ∧ Below w.heap.size w w' := by
  have hnew : Calls Try.prog 143 #[.slice none 0 0] w fun e w' => e = .returned (.pointer (some ⟨w.heap.size, 0, none⟩)) ∧ w' = w.alloc (.cells #[.slice none 0 0, .int .i64 0] 252) := by
    go_enter Try.func143, Try.ntmps143
    go_wp2_with fail
    refine (Clone_none 0 _).mono ?_; rintro e w1 ⟨rfl, rfl⟩
    go_wp2_with fail
    go_ret
    exact ⟨rfl, rfl⟩
  go_enter Try.func59, Try.ntmps59
  go_wp2_with fail
  refine hnew.mono ?_; rintro e w1 ⟨rfl, rfl⟩
  go_wp2_with fail
  go_ret
  refine ⟨_, fun k => k = w.heap.size + 1, rfl, ⟨⟨⟨w.heap.size, 0, none⟩, ?_⟩, rfl, fun k hk => by simp; omega⟩, fun k hk => by omega, Bnew (Bbox _ _) _⟩
  have := heap_alloc_new (w.alloc (.cells #[.slice none 0 0, .int .i64 0] 252)) (.cells #[.pointer none, .map none, .pointer (some ⟨w.heap.size, 0, none⟩)] 192)
  simpa using this

set_option maxRecDepth 100000 in
theorem Symbolic_at (w : World) : Calls Try.prog 71 #[] w fun e w' => ∃ u m, e = .returned (.pointer (some ⟨u, 0, none⟩)) ∧ SuitP w' u (some []) (fun k => k = u ∨ k = m) ∧ w.heap.size ≤ u ∧ w.heap.size ≤ m ∧ Below w.heap.size w w' := by
  have hmm := @run_makeMap Try.prog
  have hnew : Calls Try.prog 152 #[] w fun e w' => ∃ tb, e = .returned (.pointer (some tb)) ∧ Below w.heap.size w w' := by
    go_enter Try.func152, Try.ntmps152
    go_wp2_with fail
    go_ret
    exact ⟨_, rfl, Bnew (Bbox _ _) _⟩
  have Hnew := Lib.hid hnew; clear hnew
  go_enter Try.func71, Try.ntmps71
  go_wp2_with fail
  refine Hnew.out.mono ?_; rintro e w1 ⟨tb, rfl, hb1⟩
  go_wp2_with fail
  go_ret
  have hz := hb1.size
  refine ⟨w1.heap.size + 1, w1.heap.size, rfl, ⟨⟨tb, w1.heap.size, .map [], ?_, ?_, SaysU.nil, .inr rfl, by simp⟩, .inl rfl, fun k hk => by simp; omega⟩, by omega, by omega, Bnew (Bnew hb1 _) _⟩
  · have := heap_alloc_new (w1.alloc (.map #[] 0)) (.cells #[.pointer (some tb), .map (some w1.heap.size), .pointer none] 192)
    simpa using this
  · exact (World.ownsMap_made w1 Try.prog 9 (plainElem Try.prog 3)).alloc _
theorem Symbolic_any (w : World) : Calls Try.prog 71 #[] w fun e w' => ∃ u S, e = .returned (.pointer (some ⟨u, 0, none⟩)) ∧ SuitP w' u (some []) S ∧ (∀ k, S k → w.heap.size ≤ k) ∧ Below w.heap.size w w' :=
  (Symbolic_at w).mono fun _ _ ⟨u, m, he, hs, hu, hm, hb⟩ => ⟨u, _, he, hs, fun k hk => by rcases hk with h | h <;> omega, hb⟩

end Go.Proofs.Ytdjndeleafhglaa
namespace Go.Proofs.Ytdjndeleafhglaa
open Go.RowKit

/-- A disk d that is D, and a suite u of terms (its map in block m) that has summed U; S: the blocks that are theirs to write. -/
structure Duo (w : World) (d u m : Nat) (D : DS) (U : List (List UInt8)) (S : Nat → Prop) : Prop where
  both : ∃ S1, DiskAt w d D S1 ∧ SuitP w u (some U) (fun k => k = u ∨ k = m) ∧ ¬ S1 u ∧ ¬ S1 m ∧ ∀ k, S k ↔ S1 k ∨ k = u ∨ k = m
/-- They have turned to D' and U'; of what lay there nothing but their own has. -/
def Turn2 (S : Nat → Prop) (d u m : Nat) (D' : DS) (U' : List (List UInt8)) (w w' : World) : Prop := ∃ S', Duo w' d u m D' U' S' ∧ Frame S w w' ∧ ∀ k, S' k → S k ∨ w.heap.size ≤ k

theorem suit_blocks {w : World} {u m : Nat} {U : List (List UInt8)} (h : SuitP w u (some U) (fun k => k = u ∨ k = m)) :
    (∃ cs, w.heap[u]? = some (.cells cs 192 (0, 0))) ∧ ∃ es c, w.heap[m]? = some (.map es c) := by
  obtain ⟨⟨tb, m', D, hs, ⟨es, clock, hm, _⟩, _, hS, _⟩, _⟩ := h
  refine ⟨⟨_, hs⟩, ?_⟩
  rcases hS with rfl | rfl
  · rw [hs] at hm; cases hm
  · exact ⟨_, _, hm⟩

section
variable {w w' : World} {d u m : Nat} {D : DS} {U : List (List UInt8)} {S : Nat → Prop}

theorem DiskP.suit {S1 : Nat → Prop} {bk : Nat} {pv av : Value} {H : List (Nat × List UInt8 × Nat)} (h : DiskP w d D S1 bk pv av H) (hs : SuitP w u (some U) (fun k => k = u ∨ k = m)) (hu : ¬ S1 u) (hm : ¬ S1 m) (hf : Frame (fun k => k = u ∨ k = m) w w') : DiskP w' d D S1 bk pv av H := by
  obtain ⟨C, hC, hCs⟩ := h.blk
  obtain ⟨⟨cs, hu0⟩, ⟨es, cl, hm0⟩⟩ := suit_blocks hs
  have hb : ∀ k, k < w.heap.size → k ≠ u → k ≠ m → w'.heap[k]? = w.heap[k]? := fun k hk h1 h2 => hf.block k hk (fun e => by rcases e with e | e <;> first | exact h1 e | exact h2 e)
  have hin : ∀ k, k < w.heap.size → S1 k → w'.heap[k]? = w.heap[k]? := fun k hk h1 => hb k hk (fun e => hu (e ▸ h1)) (fun e => hm (e ▸ h1))
  obtain ⟨o1, o2, o3, o4⟩ := h.ownS
  refine ⟨(hin d (blk_lt h.hdr) o1).trans h.hdr, ⟨C, (hin bk (blk_lt hC) o2).trans hC, hCs⟩, fun q hq => rangeAt_keep (h.kept q hq) (hin bk (blk_lt hC) o2), h.klen,
    own_same h.pend fun g cur he hg => hin g (blk_lt hg) (o3 g he), h.plen, own_same h.hist fun g cur he hg => hin g (blk_lt hg) (o4 g he), h.hsay, fun x hx => ?_, h.small, h.ownS, fun k hk => Nat.lt_of_lt_of_le (h.ltS k hk) hf.size⟩
  obtain ⟨h1, h2, h3⟩ := h.hblk x hx
  exact ⟨(hb _ (blk_lt h1) (blk_ne h1 hu0 (by decide)) (fun e => by rw [e, hm0] at h1; cases h1)).trans h1, h2, h3⟩
theorem DiskAt.suit {S1 : Nat → Prop} (h : DiskAt w d D S1) (hs : SuitP w u (some U) (fun k => k = u ∨ k = m)) (hu : ¬ S1 u) (hm : ¬ S1 m) (hf : Frame (fun k => k = u ∨ k = m) w w') : DiskAt w' d D S1 := by
  obtain ⟨bk, pv, av, H, hp⟩ := h
  exact ⟨bk, pv, av, H, hp.suit hs hu hm hf⟩

theorem Duo.lt (h : Duo w d u m D U S) : ∀ k, S k → k < w.heap.size := fun k hk => by
  obtain ⟨S1, h1, h2, _, _, h5⟩ := h.both
  rcases (h5 k).1 hk with h | h
  · exact h1.ltS k h
  · exact h2.2.2 k h
theorem Duo.below (h : Duo w d u m D U S) (hb : Below w.heap.size w w') : Duo w' d u m D U S := by
  obtain ⟨S1, h1, h2, h3, h4, h5⟩ := h.both
  exact ⟨S1, h1.below hb, h2.below hb, h3, h4, h5⟩
theorem Turn2.still (h : Duo w d u m D U S) : Turn2 S d u m D U w w := ⟨S, h, Frame.refl _ _, fun _ h => .inl h⟩
theorem Turn2.of_below (h : Duo w d u m D U S) (hb : Below w.heap.size w w') : Turn2 S d u m D U w w' := ⟨S, h.below hb, Frame.of_below hb, fun _ h => .inl h⟩
theorem Turn2.size (h : Turn2 S d u m D U w w') : w.heap.size ≤ w'.heap.size := by
  obtain ⟨_, _, h, _⟩ := h
  exact h.size
/-- Behind something that writes nothing of what lay there, and ahead of it. -/
theorem Turn2.after {w0 : World} {D' : DS} {U' : List (List UInt8)} (hb : Below w0.heap.size w0 w) (h : Turn2 S d u m D' U' w w') : Turn2 S d u m D' U' w0 w' := by
  obtain ⟨S', h1, h2, h3⟩ := h
  have hz := hb.size
  exact ⟨S', h1, (Frame.of_below hb).trans h2 (fun _ h => .inl h), fun k hk => (h3 k hk).imp_right fun h => by omega⟩
theorem Turn2.then (h : Turn2 S d u m D U w w') {w2 : World} (hb : Below w'.heap.size w' w2) : Turn2 S d u m D U w w2 := by
  obtain ⟨S', h1, h2, h3⟩ := h
  exact ⟨S', h1.below hb, h2.trans (Frame.of_below (S := S) hb) (fun _ h => .inl h), h3⟩
/-- One turn behind the other. -/
theorem Turn2.comp {w1 w2 : World} {S1 : Nat → Prop} {D' : DS} {U' : List (List UInt8)} (hf : Frame S w w1) (hS : ∀ k, S1 k → S k ∨ w.heap.size ≤ k) (h : Turn2 S1 d u m D' U' w1 w2) : Turn2 S d u m D' U' w w2 := by
  obtain ⟨S', h1, h2, h3⟩ := h
  have hz := hf.size
  refine ⟨S', h1, hf.trans h2 hS, fun k hk => ?_⟩
  rcases h3 k hk with h | h
  · exact hS k h
  · exact .inr (by omega)
theorem Turn2.low {B : Nat} (h : Turn2 S d u m D U w w') (hS : ∀ k, S k → B ≤ k) (hB : B ≤ w.heap.size) : Below B w w' := by
  obtain ⟨_, _, h, _⟩ := h
  exact h.below hS hB

/-- Each call of the disk, on both. -/
theorem Turn2.disk {D' : DS} {S1 : Nat → Prop} (hs : SuitP w u (some U) (fun k => k = u ∨ k = m)) (hu : ¬ S1 u) (hm : ¬ S1 m) (h5 : ∀ k, S k ↔ S1 k ∨ k = u ∨ k = m) (h : Turn S1 d D' w w') : Turn2 S d u m D' U w w' := by
  obtain ⟨S', h1, h2, h3⟩ := h
  have ul := hs.2.2 u (.inl rfl)
  have ml := hs.2.2 m (.inr rfl)
  refine ⟨fun k => S' k ∨ k = u ∨ k = m, ⟨S', h1, hs.keep h2.size (fun k hk => h2.block k (hs.2.2 k hk) (fun e => by rcases hk with rfl | rfl <;> first | exact hu e | exact hm e)), fun e => (h3 u e).elim hu (fun h => by omega), fun e => (h3 m e).elim hm (fun h => by omega), fun k => Iff.rfl⟩,
    ⟨h2.os, h2.tape, h2.output, h2.size, fun k hk hn => h2.block k hk (fun e => hn ((h5 k).2 (.inl e)))⟩, fun k hk => ?_⟩
  rcases hk with hk | hk
  · rcases h3 k hk with h | h
    · exact .inl ((h5 k).2 (.inl h))
    · exact .inr h
  · exact .inl ((h5 k).2 (.inr hk))

theorem Duo.write {q : Nat} (p : Int) (A : Option Addr) (n c : Nat) (b : List UInt8) (h : Duo w d u m D U S) (hF : Few D q) (hq : q ≤ 400000) (hb : BytesAt w A n b) (hA : 0 < n → ∀ g o, A = some ⟨g, o, none⟩ → ¬ S g) :
    Calls Try.prog 50 #[.pointer (some ⟨d, 0, none⟩), .int .i64 p, .slice A n c] w fun e w' => e = .returned (.int .i64 (writeD D p b).1) ∧ Turn2 S d u m (writeD D p b).2 U w w' := by
  obtain ⟨S1, h1, h2, h3, h4, h5⟩ := h.both
  have hr := hF.rows
  have hc := hF.calls
  exact (DWrite_any p A n c b h1 hb (fun h0 g o e hs => hA h0 g o e ((h5 g).2 (.inl hs))) (by omega) (by omega)).mono fun e w' ⟨he, ht⟩ => ⟨he, Turn2.disk h2 h3 h4 h5 ht⟩
theorem Duo.put {q : Nat} (p : Int) (A : Option Addr) (n c : Nat) (b : List UInt8) (h : Duo w d u m D U S) (hF : Few D q) (hq : q ≤ 400000) (hb : BytesAt w A n b) :
    Calls Try.prog 48 #[.pointer (some ⟨d, 0, none⟩), .int .i64 p, .slice A n c] w fun e w' => e = .returned (.int .i64 (putD D p b).1) ∧ Turn2 S d u m (putD D p b).2 U w w' := by
  obtain ⟨S1, h1, h2, h3, h4, h5⟩ := h.both
  have hr := hF.rows
  exact (DPut_any p A n c b h1 hb (by omega)).mono fun e w' ⟨he, ht⟩ => ⟨he, Turn2.disk h2 h3 h4 h5 ht⟩
theorem Duo.flush {q : Nat} (h : Duo w d u m D U S) (hF : Few D q) (hq : q ≤ 400000) :
    Calls Try.prog 81 #[.pointer (some ⟨d, 0, none⟩)] w fun e w' => e = .returned (.int .i64 (flushD D).1) ∧ Turn2 S d u m (flushD D).2 U w w' := by
  obtain ⟨S1, h1, h2, h3, h4, h5⟩ := h.both
  have hr := hF.rows
  have hc := hF.calls
  exact (DFlush_any h1 (by omega) (by omega)).mono fun e w' ⟨he, ht⟩ => ⟨he, Turn2.disk h2 h3 h4 h5 ht⟩
theorem Duo.arm (f : Int) (h : Duo w d u m D U S) (hf1 : f ≤ 9223372036854775807) :
    Calls Try.prog 82 #[.pointer (some ⟨d, 0, none⟩), .int .i64 f] w fun e w' => e = .returned (.tuple #[]) ∧ Turn2 S d u m (armD D f) U w w' := by
  obtain ⟨S1, h1, h2, h3, h4, h5⟩ := h.both
  exact (DArm_any f h1 hf1).mono fun e w' ⟨he, ht⟩ => ⟨he, Turn2.disk h2 h3 h4 h5 ht⟩
theorem Duo.restart {q : Nat} (A : Option Addr) (n c : Nat) (torn at_ : Int) (ks : List Int) (h : Duo w d u m D U S) (hF : Few D q) (hq : q ≤ 400000) (hks : IntsAt w A n ks) (hkS : 0 < n → ∀ g o, A = some ⟨g, o, none⟩ → ¬ S g ∧ g < w.heap.size) (hkb : n ≤ 1000000) :
    Calls Try.prog 51 #[.pointer (some ⟨d, 0, none⟩), .slice A n c, .int .i64 torn, .int .i64 at_] w fun e w' => e = .returned (.tuple #[]) ∧ Turn2 S d u m (restD D ks torn at_) U w w' := by
  obtain ⟨S1, h1, h2, h3, h4, h5⟩ := h.both
  have hr := hF.rows
  exact (DRestart_any A n c torn at_ ks h1 hks (fun h0 g o e => ⟨fun hs => (hkS h0 g o e).1 ((h5 g).2 (.inl hs)), (hkS h0 g o e).2⟩) hkb (by omega)).mono fun e w' ⟨he, ht⟩ => ⟨he, Turn2.disk h2 h3 h4 h5 ht⟩
theorem Duo.read (p : Int) (h : Duo w d u m D U S) :
    Calls Try.prog 83 #[.pointer (some ⟨d, 0, none⟩), .int .i64 p] w fun e w' => ∃ A c, e = .returned (.tuple #[.slice A (readX D p).1.length c, .int .i64 (readX D p).2]) ∧ BytesAt w' A (readX D p).1.length (readX D p).1 ∧ (readX D p).1.length ≤ c ∧ (readX D p).1.length ≤ 512 ∧ Below w.heap.size w w' := by
  obtain ⟨S1, h1, _⟩ := h.both
  exact DRead_any p h1
theorem Duo.kept (p : Nat) (h : Duo w d u m D U S) (hp : p < D.n) :
    Calls Try.prog 55 #[.pointer (some ⟨d, 0, none⟩), .int .i64 (p : Int)] w fun e w' =>
      e = .returned (.slice (some ⟨w.heap.size, 0, none⟩) 512 512) ∧ BytesAt w' (some ⟨w.heap.size, 0, none⟩) 512 (D.kept p) ∧ Below w.heap.size w w' := by
  obtain ⟨S1, ⟨bk, pv, av, H, h1⟩, _⟩ := h.both
  have hl := h1.klen p hp
  exact (Kept_yes p h1 hp).mono fun e w' ⟨he, hb, hbl⟩ => ⟨he, BytesAt.of_block 512 hl hb, hbl⟩
theorem Duo.down (h : Duo w d u m D U S) : Calls Try.prog 75 #[.pointer (some ⟨d, 0, none⟩)] w fun e w' => e = .returned (.bool D.down) ∧ w = w' := by
  obtain ⟨S1, ⟨bk, pv, av, H, h1⟩, _⟩ := h.both
  exact Down_any h1
theorem Duo.dsize (h : Duo w d u m D U S) : Calls Try.prog 77 #[.pointer (some ⟨d, 0, none⟩)] w fun e w' => e = .returned (.int .i64 (D.n : Int)) ∧ w = w' := by
  obtain ⟨S1, ⟨bk, pv, av, H, h1⟩, _⟩ := h.both
  exact DSize_any h1
theorem Duo.dcalls (h : Duo w d u m D U S) : Calls Try.prog 76 #[.pointer (some ⟨d, 0, none⟩)] w fun e w' => e = .returned (.int .i64 (D.calls : Int)) ∧ w = w' := by
  obtain ⟨S1, ⟨bk, pv, av, H, h1⟩, _⟩ := h.both
  exact DCalls_any h1
/-- The suite's two words. -/
theorem Duo.encode (p : Int) (x : Sec) (A : Option Addr) (c : Nat) (h : Duo w d u m D U S) (hx : rightS p x = 0) (hb : BytesAt w A x.body.length x.body) (hU : U.length ≤ 400000) :
    Calls Try.prog 66 #[.pointer (some ⟨u, 0, none⟩), .int .i64 p, secV x A c] w fun e w' => ∃ A' c', e = .returned (.tuple #[.slice A' 512 c', .int .i64 0]) ∧
      w'.ownsRow w.heap.size 5 1 (.slice A' 512 c') 512 (bytesV (encU U p x).1) ∧ Duo w' d u m D (encU U p x).2 S ∧ Frame S w w' := by
  obtain ⟨S1, h1, h2, h3, h4, h5⟩ := h.both
  refine (Encode_all p x A c h2 hx hb (by show U.length + 1 ≤ _; omega)).mono ?_
  rintro e w' ⟨A', c', he, ho, hs, hf⟩
  exact ⟨A', c', he, ho, ⟨S1, h1.suit h2 h3 h4 hf, hs, h3, h4, h5⟩, ⟨hf.os, hf.tape, hf.output, hf.size, fun k hk hn => hf.block k hk (fun e => hn ((h5 k).2 (.inr e)))⟩⟩
theorem Duo.encode_no (p : Int) (x : Sec) (A : Option Addr) (c : Nat) (hx : rightS p x ≠ 0) :
    Calls Try.prog 66 #[.pointer (some ⟨u, 0, none⟩), .int .i64 p, secV x A c] w fun e w' => e = .returned (.tuple #[.slice none 0 0, .int .i64 (rightS p x)]) ∧ Below w.heap.size w w' :=
  Encode_no p x A c hx
theorem Duo.decode (p : Int) (A : Option Addr) (n c : Nat) (l : List UInt8) (h : Duo w d u m D U S) (hb : BytesAt w A n l) (hc : n ≤ c) :
    Calls Try.prog 58 #[.pointer (some ⟨u, 0, none⟩), .int .i64 p, .slice A n c] w fun e w' => DecPost (decU U p l) w e w' := by
  obtain ⟨S1, h1, h2, h3, h4, h5⟩ := h.both
  by_cases hn : n = 512
  · subst hn
    obtain ⟨g, o, rfl, _⟩ := hb.at_ (by decide)
    rw [← decK_some]
    exact Decode_any p g o c l h2 hb hc
  · have : decU U p l = (4, secZero) := by unfold decU; rw [if_pos (by rw [hb.len]; exact hn)]
    rw [this]
    exact Decode_form p A n c w u hn

end

/-- In a statement: both made since W, which lies as it lay. -/
structure Rig (W w : World) (d u m : Nat) (D : DS) (U : List (List UInt8)) : Prop where
  ex : ∃ S, Duo w d u m D U S ∧ Below W.heap.size W w ∧ ∀ k, S k → W.heap.size ≤ k
theorem Rig.next {W w w' : World} {d u m : Nat} {D' : DS} {U' : List (List UInt8)} {S : Nat → Prop} (hb : Below W.heap.size W w) (hS : ∀ k, S k → W.heap.size ≤ k) (ht : Turn2 S d u m D' U' w w') : Rig W w' d u m D' U' := by
  have hl := ht.low hS hb.size
  obtain ⟨S', h1, h2, h3⟩ := ht
  have hz := hb.size
  exact ⟨S', h1, hb.trans hl, fun k hk => (h3 k hk).elim (hS k) (fun h => by omega)⟩
theorem Rig.then {W w w' : World} {d u m : Nat} {D : DS} {U : List (List UInt8)} (h : Rig W w d u m D U) (hb : Below w.heap.size w w') : Rig W w' d u m D U := by
  obtain ⟨S, h1, h2, h3⟩ := h.ex
  exact ⟨S, h1.below hb, Bthen h2 hb, h3⟩
theorem Rig.bel {W w : World} {d u m : Nat} {D : DS} {U : List (List UInt8)} (h : Rig W w d u m D U) : Below W.heap.size W w := by
  obtain ⟨S, h1, h2, h3⟩ := h.ex
  exact h2
/-- Both made. -/
theorem Rig.made {W w1 w2 : World} {n u m : Nat} (hb1 : Below W.heap.size W w1) (hd : DiskAt w1 (W.heap.size + 1) (newD n) (fun k => k = W.heap.size ∨ k = W.heap.size + 1)) (hs : SuitP w2 u (some []) (fun k => k = u ∨ k = m)) (hu : w1.heap.size ≤ u) (hm : w1.heap.size ≤ m) (hb2 : Below w1.heap.size w1 w2) :
    Rig W w2 (W.heap.size + 1) u m (newD n) [] := by
  have hl := hd.ltS
  have l1 := hl (W.heap.size + 1) (.inr rfl)
  exact ⟨fun k => (k = W.heap.size ∨ k = W.heap.size + 1) ∨ k = u ∨ k = m, ⟨_, hd.below hb2, hs, by omega, by omega, fun k => Iff.rfl⟩, Bthen hb1 hb2, fun k hk => by omega⟩

end Go.Proofs.Ytdjndeleafhglaa
