/-
  Bytes are stamped at a place: written, and flushed; and what the power may do the while. Plain disks, no program.
  What is written is read, by whatever suite: plain lists.
  Roots, in plain words: what is put, read, erased and settled. No program.
  The walks of the package root.
  The walks of the package root: Settle, and what is told where there is no disk or no suite.
  Worlds in which nothing but what T names has turned; and the pair of disk and suite beside blocks that are kept.
  A sector that is torn: it is read as the new one, or as what its sum was of. Plain lists, no program.
  Supers, in plain words: what is written, cleared, and which one is read. No program.
  The walks of geom.Where, of its reference, and of 'Has'.
  The walks of the package super, the first part.
  The walks of the package super: Write, Clear.
  The walk of super.At. (Written by gen_sup.py.)
  The walk of super.Read.
  The statements on supers: the example.
  Small words of the document on sectors, walked: Same, Blank.
  The document's words on supers.
  The walk of the statement SuperWrites.
  Facts on the program's head that every statement's row asks, proved apart: the kernel would not hold them at once.
  What comes in, opened: bytes, ints, sectors by value, and slices of what may be opened.
  The opening of a super that comes in.
-/
import Derived.Test.YtdjndeleafhglaaM2
import Derived.Test.YtdjndeleafhglaaM3
import Derived.Test.YtdjndeleafhglaaM4
import Derived.Laws.EntriesVeiled
import Derived.Test.YtdjndeleafhglaaRows
import Derived.ProofKit
import Derived.OpenShut
import Derived.ChangeSlices
import Derived.WideShapes
import Derived.Lib.SmallJoins
import Derived.WideOpen
namespace Go.Proofs.Ytdjndeleafhglaa

/-- Nothing waits, and the power is there. -/
structure Calm (D : DS) : Prop where
  up : D.down = false
  idle : D.pend = []

theorem Calm.new (n : Nat) : Calm (newD n) := ⟨rfl, rfl⟩
theorem Calm.read {D : DS} (h : Calm D) {p : Nat} (hp : p < D.n) : readX D (p : Int) = (D.kept p, 0) := by
  unfold readX readD
  rw [if_neg (by simp [h.up]), if_neg (by omega), h.idle]
  rfl

/-- Writing, then flushing. -/
def stampD (D : DS) (p : Int) (b : List UInt8) : Int × DS := if (writeD D p b).1 ≠ 0 then writeD D p b else flushD (writeD D p b).2

/-- What a stamp leaves: it is there, or the power went first. -/
inductive Stamped (D : DS) (p : Nat) (b : List UInt8) (R : Int × DS) : Prop where
  | yes (h0 : R.1 = 0) (hk : R.2.kept = fun q => if q = p then b else D.kept q) (hn : R.2.n = D.n) (hc : Calm R.2) (hf : D.fuse = -1 → R.2.fuse = -1)
  | no (h0 : R.1 = 12) (hk : R.2.kept = D.kept) (hn : R.2.n = D.n) (hp : R.2.pend = [(p, b)]) (hd : R.2.down = true) (hf : D.fuse ≠ -1)

theorem stamp_calm {D : DS} (h : Calm D) (hf : -1 ≤ D.fuse) {p : Nat} (hp : p < D.n) {b : List UInt8} (hb : b.length = 512) : Stamped D p b (stampD D (p : Int) b) := by
  obtain ⟨n, kept, pend, hist, fuse, calls, down⟩ := D
  obtain ⟨h1, h2⟩ := h
  simp only at h1 h2 hp hf
  subst h1 h2
  have hw : writeD ⟨n, kept, [], hist, fuse, calls, false⟩ (p : Int) b = burnD ⟨n, kept, [(p, b)], hist, fuse, calls, false⟩ := by
    unfold writeD
    rw [if_neg (by simp), if_neg (by simp only; omega), if_neg (by simp [hb])]
    rfl
  unfold stampD
  rw [hw]
  unfold burnD
  by_cases h0 : fuse = 0
  · rw [if_pos h0, if_pos (by simp)]
    exact .no rfl rfl rfl rfl rfl (by simp only; omega)
  rw [if_neg h0]
  by_cases h1 : 0 < fuse
  · rw [if_pos h1, if_neg (by simp)]
    unfold flushD
    rw [if_neg (by simp)]
    unfold burnD
    simp only
    by_cases h2 : fuse - 1 = 0
    · rw [if_pos h2, if_pos (by simp)]
      exact .no rfl rfl rfl rfl rfl (by simp only; omega)
    · rw [if_neg h2, if_pos (show 0 < fuse - 1 by omega), if_neg (by simp)]
      exact .yes rfl rfl rfl ⟨rfl, rfl⟩ (fun e => by simp only at e; omega)
  · rw [if_neg h1, if_neg (by simp)]
    unfold flushD
    rw [if_neg (by simp)]
    unfold burnD
    simp only
    rw [if_neg h0, if_neg h1, if_neg (by simp)]
    exact .yes rfl rfl rfl ⟨rfl, rfl⟩ (fun e => e)

/-- What the restart leaves of nothing pending. -/
theorem rest_idle {D : DS} (h : D.pend = []) (ks : List Int) (torn at_ : Int) : (restD D ks torn at_).kept = D.kept ∧ (restD D ks torn at_).n = D.n ∧ Calm (restD D ks torn at_) ∧ (restD D ks torn at_).fuse = -1 := by
  unfold restD restAll
  rw [h]
  exact ⟨rfl, rfl, ⟨rfl, rfl⟩, rfl⟩
/-- .. of one thing pending: elsewhere all is as it was. -/
theorem rest_one {D : DS} {p : Nat} {b : List UInt8} (h : D.pend = [(p, b)]) (ks : List Int) (torn at_ : Int) :
    (∀ q, q ≠ p → (restD D ks torn at_).kept q = D.kept q) ∧ ((restD D ks torn at_).kept p = D.kept p ∨ (restD D ks torn at_).kept p = b ∨ (restD D ks torn at_).kept p = b.take (at_ % 513).toNat ++ (D.kept p).drop (at_ % 513).toNat) ∧
      (restD D ks torn at_).n = D.n ∧ Calm (restD D ks torn at_) ∧ (restD D ks torn at_).fuse = -1 := by
  have e : restAll ks torn (at_ % 513).toNat D D.pend = stepR ks torn (at_ % 513).toNat D (p, b) 0 := by rw [h]; rfl
  unfold restD
  rw [e]
  unfold stepR
  split
  · refine ⟨fun q hq => ?_, .inr (.inr ?_), rfl, ⟨rfl, rfl⟩, rfl⟩
    · simp only [keepD]; rw [if_neg hq]
    · simp only [keepD, if_true]
  · split
    · refine ⟨fun q hq => ?_, .inr (.inl ?_), rfl, ⟨rfl, rfl⟩, rfl⟩
      · simp only [keepD]; rw [if_neg hq]
      · simp only [keepD, if_true]
    · exact ⟨fun q hq => rfl, .inl rfl, rfl, ⟨rfl, rfl⟩, rfl⟩
theorem restD_n (D : DS) (ks : List Int) (torn at_ : Int) : (restD D ks torn at_).n = D.n := by
  obtain ⟨h1, _⟩ := restAll_same ks torn (at_ % 513).toNat D.pend D
  exact h1
theorem restD_calm (D : DS) (ks : List Int) (torn at_ : Int) : Calm (restD D ks torn at_) := ⟨rfl, rfl⟩
theorem Few.stamp {D : DS} {q : Nat} (h : Few D q) (p : Int) (b : List UInt8) : Few (stampD D p b).2 (q + 2) := by
  unfold stampD
  split
  · exact (h.write p b).mono (by omega)
  · exact (h.write p b).flush

end Go.Proofs.Ytdjndeleafhglaa
namespace Go.Proofs.Ytdjndeleafhglaa

theorem encK_take (K : SU) (p : Int) (x : Sec) : (encK K p x).1.take 504 = textS p x := by
  unfold encK
  exact List.take_left' (textS_length p x)
theorem encK_drop (K : SU) (p : Int) (x : Sec) : (encK K p x).1.drop 504 = (sumK K (textS p x)).1 := by
  unfold encK
  exact List.drop_left' (textS_length p x)
theorem checkK_sum (K : SU) (t : List UInt8) : checkK (sumK K t).2 t (sumK K t).1 = true := by
  cases K with
  | none => simp [checkK, sumK]
  | some U =>
    simp only [sumK, checkK]
    unfold checkU
    rw [sumU_idx]
    simp [sumU_mem]
/-- What is written is read. -/
theorem decK_enc {K : SU} {p : Int} {x : Sec} (h : rightS p x = 0) (hl : x.life < 18446744073709551616) (hg : x.gen < 18446744073709551616) : decK (encK K p x).2 p (encK K p x).1 = (0, x) := by
  unfold decK
  rw [if_neg (by rw [encK_length]; simp), if_neg (show ¬ (encK K p x).1 = blankS from textS_head p x h _), encK_take, encK_drop, ofS_textS h hl hg]
  have := checkK_sum K (textS p x)
  simp only [encK, this, if_true]
/-- .. at its place alone. -/
theorem decK_other {K K' : SU} {p q : Int} {x : Sec} (h : rightS p x = 0) (hpq : q ≠ p) : decK K' q (encK K p x).1 = (11, secZero) := by
  unfold decK
  rw [if_neg (by rw [encK_length]; simp), if_neg (show ¬ (encK K p x).1 = blankS from textS_head p x h _), encK_take, ofS_other h hpq]
/-- Where one thing alone was summed, it alone is read. -/
theorem decK_alone {p : Int} {x : Sec} {b : List UInt8} (hb : b ≠ (encK (some []) p x).1) : (decK (encK (some []) p x).2 p b).1 ≠ 0 := by
  have e2 : (encK (some []) p x).2 = some [textS p x] := by simp [encK, sumK, sumU]
  rw [e2, decK_some]
  intro h0
  rcases decU_cases [textS p x] p b with ⟨y, hy⟩ | ⟨h, _⟩
  · obtain ⟨h1, h2, h3, h4, h5, h6⟩ := decU_ok hy
    have h7 : textS p y = textS p x := by simpa using h5
    apply hb
    have := decU_bytes hy
    rw [this, h7]
    simp [encK, sumK, sumU]
  · exact h h0
theorem decK_alone2 {p : Int} {x : Sec} {b : List UInt8} (hb : b ≠ (encK (some []) p x).1) : ∃ rf, decK (encK (some []) p x).2 p b = (rf, secZero) ∧ rf ≠ 0 := by
  have h0 := decK_alone hb
  have e2 : (encK (some []) p x).2 = some [textS p x] := by simp [encK, sumK, sumU]
  rw [e2, decK_some] at h0 ⊢
  rcases decU_cases [textS p x] p b with ⟨y, hy⟩ | ⟨h, h'⟩
  · rw [hy] at h0; exact absurd rfl h0
  · exact ⟨_, Prod.ext rfl h', h⟩

end Go.Proofs.Ytdjndeleafhglaa
namespace Go.Proofs.Ytdjndeleafhglaa

def rootS (gen : Nat) (key : List UInt8) : Sec := ⟨1, 0, 0, gen, key⟩
/-- Is it the root of a gen? -/
def rootIs (gen : Nat) (x : Sec) : Prop := x.kind = 1 ∧ x.life = 0 ∧ x.seq = 0 ∧ x.gen = gen ∧ x.body.length = 32
instance (gen : Nat) (x : Sec) : Decidable (rootIs gen x) := by unfold rootIs; infer_instance
def rplace (gen : Nat) : Nat := gen % 2

def rputD (D : DS) (K : List (List UInt8)) (gen : Nat) (key : List UInt8) : Int × DS × List (List UInt8) :=
  if key.length ≠ 32 then (4, D, K) else ((stampD D (rplace gen : Int) (encU K (rplace gen : Int) (rootS gen key)).1).1, (stampD D (rplace gen : Int) (encU K (rplace gen : Int) (rootS gen key)).1).2, (encU K (rplace gen : Int) (rootS gen key)).2)
def reraseD (D : DS) (gen : Nat) : Int × DS := stampD D (rplace gen : Int) blankS
/-- What is read of bytes as the key of a gen. -/
def rkeyB (K : List (List UInt8)) (gen : Nat) (b : List UInt8) : List UInt8 × Int := if (decU K (rplace gen : Int) b).1 = 0 ∧ rootIs gen (decU K (rplace gen : Int) b).2 then ((decU K (rplace gen : Int) b).2.body, 0) else ([], 11)
def rgetD (D : DS) (K : List (List UInt8)) (gen : Nat) : List UInt8 × Int := if (readX D (rplace gen : Int)).2 ≠ 0 then ([], (readX D (rplace gen : Int)).2) else rkeyB K gen (readX D (rplace gen : Int)).1
def rblankD (D : DS) (gen : Nat) : Bool × Int := (decide ((readX D (rplace gen : Int)).2 = 0) && decide ((readX D (rplace gen : Int)).1 = blankS), (readX D (rplace gen : Int)).2)
/-- Settling: what is told, and the disk behind it. -/
def rsetD (D : DS) (K : List (List UInt8)) (gen : Nat) : (List UInt8 × Int) × DS :=
  if (rgetD D K gen).2 ≠ 0 then (([], (rgetD D K gen).2), D)
  else if (rblankD D (gen ^^^ 1)).2 = 0 then
    (if (rblankD D (gen ^^^ 1)).1 = true then (rgetD D K gen, D)
     else if (reraseD D (gen ^^^ 1)).1 ≠ 0 then (([], (reraseD D (gen ^^^ 1)).1), (reraseD D (gen ^^^ 1)).2) else (rgetD D K gen, (reraseD D (gen ^^^ 1)).2))
  else (([], (rblankD D (gen ^^^ 1)).2), D)

theorem rplace_lt (gen : Nat) : rplace gen < 2 := Nat.mod_lt _ (by decide)
theorem rplace_xor (gen : Nat) : rplace (gen ^^^ 1) = 1 - rplace gen := by
  unfold rplace
  have := Nat.xor_mod_two_pow (a := gen) (b := 1) (n := 1)
  rw [Nat.pow_one] at this
  rw [this]
  rcases Nat.mod_two_eq_zero_or_one gen with h | h <;> rw [h] <;> rfl
theorem rplace_succ (gen : Nat) : rplace (gen + 1) = 1 - rplace gen := by unfold rplace; omega
theorem xor_lt64 {gen : Nat} (h : gen < 18446744073709551616) : gen ^^^ 1 < 18446744073709551616 := Nat.xor_lt_two_pow (n := 64) (by omega) (by omega)
theorem rootS_right (gen : Nat) {key : List UInt8} (h : key.length = 32) : rightS (rplace gen : Int) (rootS gen key) = 0 := by
  have := rplace_lt gen
  exact rightS_ok.2 ⟨by simp [rootS], by simp [rootS], by omega, by omega, by simp [rootS], by simp [rootS], by simp [rootS, h]⟩

/-- Of a disk where all is calm. -/
theorem rget_calm {D : DS} (h : Calm D) (hn : D.n = 2) (K : List (List UInt8)) (gen : Nat) : rgetD D K gen = rkeyB K gen (D.kept (rplace gen)) := by
  unfold rgetD
  rw [h.read (by rw [hn]; exact rplace_lt gen), if_neg (by simp)]
theorem rblank_calm {D : DS} (h : Calm D) (hn : D.n = 2) (gen : Nat) : rblankD D gen = (decide (D.kept (rplace gen) = blankS), 0) := by
  unfold rblankD
  rw [h.read (by rw [hn]; exact rplace_lt gen)]
  simp
theorem blankS_len : blankS.length = 512 := List.length_replicate
theorem rkey_blank (K : List (List UInt8)) (gen : Nat) : rkeyB K gen blankS = ([], 11) := by
  have h : decU K (rplace gen : Int) blankS = (7, secZero) := by
    unfold decU
    rw [if_neg (by rw [blankS_len]; simp), if_pos rfl]
  unfold rkeyB
  rw [h, if_neg (by simp)]
theorem blank_zeros : blankS = zeros := rfl

/-- What was put is read, by any suite that has seen as much. -/
theorem rkey_put {U V : List (List UInt8)} {gen : Nat} {key : List UInt8} (hk : key.length = 32) (hg : gen < 18446744073709551616) (hV : (encU U (rplace gen : Int) (rootS gen key)).2 <+: V) : rkeyB V gen (encU U (rplace gen : Int) (rootS gen key)).1 = (key, 0) := by
  unfold rkeyB
  rw [decU_enc (rootS_right gen hk) (by simp [rootS]) (by simpa [rootS] using hg) hV, if_pos ⟨rfl, rfl, rfl, rfl, rfl, hk⟩]
  rfl
/-- .. by its gen alone. -/
theorem rkey_other {U V : List (List UInt8)} {gen other : Nat} {key : List UInt8} (hk : key.length = 32) (hg : gen < 18446744073709551616) (hV : (encU U (rplace gen : Int) (rootS gen key)).2 <+: V) (ho : other ≠ gen) (hp : rplace other = rplace gen) :
    rkeyB V other (encU U (rplace gen : Int) (rootS gen key)).1 = ([], 11) := by
  unfold rkeyB
  rw [hp, decU_enc (rootS_right gen hk) (by simp [rootS]) (by simpa [rootS] using hg) hV, if_neg]
  rintro ⟨_, _, _, _, h, _⟩
  exact ho h.symm

/-- Settling a calm disk whose fuse is none: the other place is blank behind it. -/
theorem rset_calm {D : DS} (h : Calm D) (hn : D.n = 2) (hf : D.fuse = -1) (K : List (List UInt8)) (gen : Nat) {key : List UInt8} (hk : rkeyB K gen (D.kept (rplace gen)) = (key, 0)) :
    (rsetD D K gen).1 = (key, 0) ∧ (rsetD D K gen).2.kept = (fun q => if q = 1 - rplace gen then blankS else D.kept q) ∧ Calm (rsetD D K gen).2 ∧ (rsetD D K gen).2.n = 2 := by
  have hg := rget_calm h hn K gen
  rw [hk] at hg
  have hb := rblank_calm h hn (gen ^^^ 1)
  rw [rplace_xor] at hb
  unfold rsetD
  rw [hg, hb, if_neg (by simp), if_pos rfl]
  by_cases hbl : D.kept (1 - rplace gen) = blankS
  · rw [if_pos (by simpa using hbl)]
    refine ⟨rfl, ?_, h, hn⟩
    funext q
    simp only
    split
    · rename_i e; rw [e, hbl]
    · rfl
  · rw [if_neg (by simpa using hbl)]
    have hpl : rplace (gen ^^^ 1) < D.n := by rw [hn]; exact rplace_lt _
    have hs := stamp_calm h (by omega) hpl blankS_len
    unfold reraseD
    cases hs with
    | yes h0 hk hn' hc hf' =>
      rw [if_neg (by simp [h0])]
      refine ⟨rfl, ?_, hc, hn'.trans hn⟩
      simp only
      rw [hk, rplace_xor]
    | no h0 _ _ _ _ hf' => exact absurd hf hf'
theorem rset_bad {D : DS} (h : Calm D) (hn : D.n = 2) (K : List (List UInt8)) (gen : Nat) (hk : rkeyB K gen (D.kept (rplace gen)) = ([], 11)) : rsetD D K gen = (([], 11), D) := by
  have hg := rget_calm h hn K gen
  rw [hk] at hg
  unfold rsetD
  rw [hg, if_pos (by decide)]

/-- Putting where all is calm and the power stays. -/
theorem rput_calm {D : DS} (h : Calm D) (hn : D.n = 2) (hf : D.fuse = -1) (U : List (List UInt8)) (gen : Nat) {key : List UInt8} (hk : key.length = 32) :
    ∃ D1, rputD D U gen key = (0, D1, (encU U (rplace gen : Int) (rootS gen key)).2) ∧ D1.kept = (fun q => if q = rplace gen then (encU U (rplace gen : Int) (rootS gen key)).1 else D.kept q) ∧ Calm D1 ∧ D1.n = 2 ∧ D1.fuse = -1 := by
  have hs := stamp_calm h (by omega) (p := rplace gen) (by rw [hn]; exact rplace_lt gen) (encU_length U (rplace gen : Int) (rootS gen key))
  unfold rputD
  rw [if_neg (by simp [hk])]
  cases hs with
  | yes h0 hk hn' hc hf' => exact ⟨_, by rw [h0], hk, hc, hn'.trans hn, hf' hf⟩
  | no _ _ _ _ _ hf' => exact absurd hf hf'
theorem rerase_calm {D : DS} (h : Calm D) (hn : D.n = 2) (hf : D.fuse = -1) (gen : Nat) :
    ∃ D1, reraseD D gen = (0, D1) ∧ D1.kept = (fun q => if q = rplace gen then blankS else D.kept q) ∧ Calm D1 ∧ D1.n = 2 ∧ D1.fuse = -1 := by
  have hs := stamp_calm h (by omega) (p := rplace gen) (by rw [hn]; exact rplace_lt gen) blankS_len
  unfold reraseD
  cases hs with
  | yes h0 hk hn' hc hf' => exact ⟨_, Prod.ext h0 rfl, hk, hc, hn'.trans hn, hf' hf⟩
  | no _ _ _ _ _ hf' => exact absurd hf hf'
theorem rputD_few {D : DS} {q : Nat} (h : Few D q) (U : List (List UInt8)) (gen : Nat) (key : List UInt8) : Few (rputD D U gen key).2.1 (q + 2) := by
  unfold rputD
  split
  · exact h.mono (by omega)
  · exact h.stamp _ _
theorem rputD_room (D : DS) (U : List (List UInt8)) (gen : Nat) (key : List UInt8) : (rputD D U gen key).2.2.length ≤ U.length + 1 := by
  unfold rputD
  split
  · simp
  · exact sumU_length U _

/-- The power goes while the next root is put, or the one ahead of it erased. -/
theorem rcrash {D1 : DS} {q : Nat} (hc : Calm D1) (hn : D1.n = 2) (hF : Few D1 q) (U : List (List UInt8)) (gen : Nat) {key next : List UInt8} (hk : key.length = 32) (hx : next.length = 32) (hg : gen + 1 < 18446744073709551616)
    (hk1 : D1.kept (rplace gen) = (encU U (rplace gen : Int) (rootS gen key)).1) (fuse : Int) (hfu : fuse ≤ 9223372036854775807) (ks : List Int) (torn at_ : Int) :
    ∃ (f : Int) (D3 : DS) (V : List (List UInt8)), rputD (armD D1 fuse) (encU U (rplace gen : Int) (rootS gen key)).2 (gen + 1) next = (f, D3, V) ∧
      ((f = 12 ∧ ∃ D5, rsetD (restD D3 ks torn at_) V gen = ((key, 0), D5) ∧ rblankD D5 (gen + 1) = (true, 0)) ∨
       (f = 0 ∧ ∃ e D4 D5, reraseD D3 gen = (e, D4) ∧ (e = 0 ∨ e = 12) ∧ rsetD (restD D4 ks torn at_) V (gen + 1) = ((next, 0), D5) ∧ rblankD D5 gen = (true, 0))) := by
  obtain ⟨D2, hD2⟩ : ∃ D2, D2 = armD D1 fuse := ⟨_, rfl⟩
  have hF2 : Few D2 q := hD2 ▸ hF.arm fuse hfu
  have hc2 : Calm D2 := hD2 ▸ ⟨hc.up, hc.idle⟩
  have hn2 : D2.n = 2 := by rw [hD2]; exact hn
  have hk2 : D2.kept = D1.kept := by rw [hD2]; rfl
  rw [← hD2]
  clear hD2
  have hp1 := rplace_lt gen
  have hp2 := rplace_succ gen
  have hpx := rplace_lt (gen + 1)
  have hput : rputD D2 (encU U (rplace gen : Int) (rootS gen key)).2 (gen + 1) next = ((stampD D2 (rplace (gen + 1) : Int) (encU (encU U (rplace gen : Int) (rootS gen key)).2 (rplace (gen + 1) : Int) (rootS (gen + 1) next)).1).1,
      (stampD D2 (rplace (gen + 1) : Int) (encU (encU U (rplace gen : Int) (rootS gen key)).2 (rplace (gen + 1) : Int) (rootS (gen + 1) next)).1).2, (encU (encU U (rplace gen : Int) (rootS gen key)).2 (rplace (gen + 1) : Int) (rootS (gen + 1) next)).2) := by
    unfold rputD; rw [if_neg (by simp [hx])]
  have hpre : (encU U (rplace gen : Int) (rootS gen key)).2 <+: (encU (encU U (rplace gen : Int) (rootS gen key)).2 (rplace (gen + 1) : Int) (rootS (gen + 1) next)).2 := sumU_pre _ _
  have hkey := rkey_put (U := U) (gen := gen) hk (by omega) hpre
  have hnext := rkey_put (U := (encU U (rplace gen : Int) (rootS gen key)).2) (gen := gen + 1) hx hg List.prefix_rfl
  have hst := stamp_calm hc2 hF2.lo (p := rplace (gen + 1)) (by rw [hn2]; exact hpx) (encU_length (encU U (rplace gen : Int) (rootS gen key)).2 (rplace (gen + 1) : Int) (rootS (gen + 1) next))
  have hF3 := hF2.stamp (rplace (gen + 1) : Int) (encU (encU U (rplace gen : Int) (rootS gen key)).2 (rplace (gen + 1) : Int) (rootS (gen + 1) next)).1
  refine ⟨_, _, _, hput, ?_⟩
  rw [← hk1] at hkey
  generalize (encU (encU U (rplace gen : Int) (rootS gen key)).2 (rplace (gen + 1) : Int) (rootS (gen + 1) next)).1 = nb at *
  generalize (encU (encU U (rplace gen : Int) (rootS gen key)).2 (rplace (gen + 1) : Int) (rootS (gen + 1) next)).2 = V at *
  generalize stampD D2 (rplace (gen + 1) : Int) nb = R at *
  obtain ⟨f, D3⟩ := R
  cases hst with
  | no h0 hk hn' hp hd hf =>
    simp only at h0 hk hn' hp
    left
    refine ⟨h0, ?_⟩
    obtain ⟨r1, _, r3, r4, r5⟩ := rest_one hp ks torn at_
    have hs := rset_calm r4 (r3.trans (hn'.trans hn2)) r5 V gen (key := key) (by rw [r1 (rplace gen) (by omega), hk, hk2]; exact hkey)
    obtain ⟨s1, s2, s3, s4⟩ := hs
    refine ⟨_, Prod.ext s1 rfl, ?_⟩
    rw [rblank_calm s3 s4, s2, hp2]
    simp
  | yes h0 hk hn' hc' hf =>
    simp only at h0 hk hn' hc'
    right
    refine ⟨h0, ?_⟩
    have hst2 := stamp_calm hc' hF3.lo (p := rplace gen) (by rw [hn', hn2]; exact hp1) blankS_len
    unfold reraseD
    generalize stampD D3 (rplace gen : Int) blankS = R at hst2 ⊢
    obtain ⟨e, D4⟩ := R
    have key2 : ∀ D5 : DS, Calm D5 → D5.n = 2 → D5.fuse = -1 → D5.kept (rplace (gen + 1)) = nb → ∃ D6, rsetD D5 V (gen + 1) = ((next, 0), D6) ∧ rblankD D6 gen = (true, 0) := fun D5 a1 a2 a3 a4 => by
      obtain ⟨s1, s2, s3, s4⟩ := rset_calm a1 a2 a3 V (gen + 1) (key := next) (by rw [a4]; exact hnext)
      refine ⟨_, Prod.ext s1 rfl, ?_⟩
      rw [rblank_calm s3 s4, s2, hp2]
      have : rplace gen = 1 - (1 - rplace gen) := by omega
      simp only [← this, if_true]
      simp
    have hnb : D3.kept (rplace (gen + 1)) = nb := by rw [hk]; simp
    cases hst2 with
    | yes g0 gk gn gc gf =>
      simp only at g0 gk gn gc
      obtain ⟨r1, r2, r3, r4⟩ := rest_idle gc.idle ks torn at_
      obtain ⟨D6, h6, h7⟩ := key2 _ r3 (r2.trans (gn.trans (hn'.trans hn2))) r4 (by rw [r1, gk]; simp only; rw [if_neg (by omega)]; exact hnb)
      exact ⟨e, D4, D6, rfl, .inl g0, h6, h7⟩
    | no g0 gk gn gp gd gf =>
      simp only at g0 gk gn gp
      obtain ⟨r1, _, r3, r4, r5⟩ := rest_one gp ks torn at_
      obtain ⟨D6, h6, h7⟩ := key2 _ r4 (r3.trans (gn.trans (hn'.trans hn2))) r5 (by rw [r1 _ (by omega), gk]; exact hnb)
      exact ⟨e, D4, D6, rfl, .inr g0, h6, h7⟩

/-- A sector is encoded and put at place i, if it may be. -/
def layD (R : DS × List (List UInt8)) (i : Nat) (x : Sec) : DS × List (List UInt8) := if rightS (i : Int) x = 0 then ((putD R.1 (i : Int) (encU R.2 (i : Int) x).1).2, (encU R.2 (i : Int) x).2) else R
theorem put_calm {D : DS} (h : Calm D) {p : Nat} (hp : p < D.n) {b : List UInt8} (hb : b.length = 512) : putD D (p : Int) b = (0, keepD D p b) ∧ Calm (keepD D p b) := by
  unfold putD
  rw [if_neg (by omega), if_neg (by simp [hb])]
  exact ⟨by simp, h.up, h.idle⟩
theorem layD_ok {D : DS} {U : List (List UInt8)} (h : Calm D) {i : Nat} (hi : i < D.n) (x : Sec) :
    Calm (layD (D, U) i x).1 ∧ (layD (D, U) i x).1.n = D.n ∧ (layD (D, U) i x).1.fuse = D.fuse ∧ U <+: (layD (D, U) i x).2 ∧ (layD (D, U) i x).2.length ≤ U.length + 1 ∧
      (layD (D, U) i x).1.kept = (fun q => if q = i ∧ rightS (i : Int) x = 0 then (encU U (i : Int) x).1 else D.kept q) := by
  unfold layD
  split
  · rename_i hr
    obtain ⟨h1, h2⟩ := put_calm h hi (encU_length U (i : Int) x)
    simp only
    rw [h1]
    refine ⟨h2, rfl, rfl, sumU_pre U _, sumU_length U _, ?_⟩
    funext q
    simp only [keepD, hr, and_true]
  · rename_i hr
    refine ⟨h, rfl, rfl, List.prefix_rfl, by simp, ?_⟩
    funext q
    simp only [hr, and_false, if_false]
theorem layD_few {D : DS} {U : List (List UInt8)} {q : Nat} (h : Few D q) (i : Nat) (x : Sec) : Few (layD (D, U) i x).1 (q + 1) := by
  unfold layD
  split
  · exact h.put _ _
  · exact h.mono (by omega)

end Go.Proofs.Ytdjndeleafhglaa
namespace Go.Proofs.Ytdjndeleafhglaa
open Go.RowKit

section
variable {w : World} {d u m q : Nat} {D : DS} {U : List (List UInt8)} {S : Nat → Prop}

theorem RWrite1_c (x0 x1 x2 : Nat) (p : Int) (A : Option Addr) (n c : Nat) (b : List UInt8) (h : Duo w d u m D U S) (hF : Few D q) (hq : q ≤ 300000) (hb : BytesAt w A n b) (hA : 0 < n → ∀ g o, A = some ⟨g, o, none⟩ → ¬ S g)
    (h0 : w.cell? ⟨x0, 0, none⟩ = some (.pointer (some ⟨d, 0, none⟩))) (h1 : w.cell? ⟨x1, 0, none⟩ = some (.int .i64 p)) (h2 : w.cell? ⟨x2, 0, none⟩ = some (.slice A n c)) :
    Calls Try.prog 190 #[.pointer (some ⟨x0, 0, none⟩), .pointer (some ⟨x1, 0, none⟩), .pointer (some ⟨x2, 0, none⟩)] w fun e w' => e = .returned (.int .i64 (writeD D p b).1) ∧ Turn2 S d u m (writeD D p b).2 U w w' := by
  have hw := h.write p A n c b hF (by omega) hb hA
  have Hw := Lib.hid hw; clear hw h hF hb hA
  go_enter Try.func190, Try.ntmps190
  go_wp2_with fail
  refine Hw.out.mono ?_; rintro e w1 ⟨rfl, ht⟩
  go_wp2_with fail
  go_ret
  exact ⟨rfl, ht⟩

theorem todo0 (a b c f : Value) (w : World) : (Instr.index 260 (.agg #[.func (.func 190) #[] #[a, b, c], .func (.func 81) #[f] #[]]) (.int .i64 0)).run Try.prog w = .ok (.func (.func 190) #[] #[a, b, c]) w := by kernel_rfl
theorem todo1 (a b c f : Value) (w : World) : (Instr.index 260 (.agg #[.func (.func 190) #[] #[a, b, c], .func (.func 81) #[f] #[]]) (.int .i64 1)).run Try.prog w = .ok (.func (.func 81) #[f] #[]) w := by kernel_rfl

set_option maxRecDepth 100000 in
set_option maxHeartbeats 1000000 in
theorem RWrite_c (gen : Nat) (A : Option Addr) (n c : Nat) (b : List UInt8) (h : Duo w d u m D U S) (hF : Few D q) (hq : q ≤ 300000) (hg : gen < 18446744073709551616) (hb : BytesAt w A n b) (hA : 0 < n → ∀ g o, A = some ⟨g, o, none⟩ → ¬ S g) :
    Calls Try.prog 159 #[.pointer (some ⟨d, 0, none⟩), .int .u64 (gen : Int), .slice A n c] w fun e w' => e = .returned (.int .i64 (stampD D (rplace gen : Int) b).1) ∧ Turn2 S d u m (stampD D (rplace gen : Int) b).2 U w w' := by
  have hr := fun W => Root_any (gen : Int) W (by omega) (by omega)
  rw [show (gen : Int) % 2 = (rplace gen : Int) by unfold rplace; omega] at hr
  have Hr := Lib.hid hr; clear hr
  have Hd := Lib.hid h; clear h
  have Hb := Lib.hid hb; clear hb
  have HA := Lib.hid hA; clear hA
  have hlt := Hd.out.lt
  have Hlt := Lib.hid hlt; clear hlt
  have i0 := todo0
  have i1 := todo1
  generalize rplace gen = p at Hr ⊢
  have hw := fun W (hB : Below w.heap.size w W) => RWrite1_c (w := W) w.heap.size (w.heap.size + 1 + 1) (w.heap.size + 1) (p : Int) A n c b (Hd.out.below hB) hF hq (Hb.out.below hB) HA.out
  have hF2 := hF.write (p : Int) b
  unfold stampD
  generalize writeD D (p : Int) b = R at hw hF2 ⊢
  have Hw := Lib.hid hw; clear hw
  go_enter Try.func159, Try.ntmps159
  go_wp2_with fail
  go_step3
  go_wp2_with fail
  refine (Hr.out _).mono ?_; rintro e w1 ⟨rfl, rfl⟩
  go_wp2_with fail
  go_step3
  go_wp2_with fail
  have hB : Below w.heap.size w ((((w.alloc (.cells #[.pointer (some ⟨d, 0, none⟩)] 36)).alloc (.cells #[.slice A n c] 41)).alloc (.cells #[.int .i64 (p : Int)] 3)).alloc (.cells #[.func (.func 190) #[] #[.pointer (some ⟨w.heap.size, 0, none⟩), .pointer (some ⟨w.heap.size + 1 + 1, 0, none⟩), .pointer (some ⟨w.heap.size + 1, 0, none⟩)], .func (.func 81) #[.pointer (some ⟨d, 0, none⟩)] #[]] 260)) := by ((repeat (first | (with_reducible exact Bnil _) | (with_reducible assumption) | (with_reducible refine Bset ?_ ?_ _) | (with_reducible refine Bnew ?_ _) | (with_reducible refine Bdrew ?_) | (with_reducible refine Bthen ?_ (by assumption)))); all_goals (simp; try omega))
  have c0 : ((((w.alloc (.cells #[.pointer (some ⟨d, 0, none⟩)] 36)).alloc (.cells #[.slice A n c] 41)).alloc (.cells #[.int .i64 (p : Int)] 3)).alloc (.cells #[.func (.func 190) #[] #[.pointer (some ⟨w.heap.size, 0, none⟩), .pointer (some ⟨w.heap.size + 1 + 1, 0, none⟩), .pointer (some ⟨w.heap.size + 1, 0, none⟩)], .func (.func 81) #[.pointer (some ⟨d, 0, none⟩)] #[]] 260)).cell? ⟨w.heap.size, 0, none⟩ = some (.pointer (some ⟨d, 0, none⟩)) := by go_simp
  have c1 : ((((w.alloc (.cells #[.pointer (some ⟨d, 0, none⟩)] 36)).alloc (.cells #[.slice A n c] 41)).alloc (.cells #[.int .i64 (p : Int)] 3)).alloc (.cells #[.func (.func 190) #[] #[.pointer (some ⟨w.heap.size, 0, none⟩), .pointer (some ⟨w.heap.size + 1 + 1, 0, none⟩), .pointer (some ⟨w.heap.size + 1, 0, none⟩)], .func (.func 81) #[.pointer (some ⟨d, 0, none⟩)] #[]] 260)).cell? ⟨w.heap.size + 1 + 1, 0, none⟩ = some (.int .i64 (p : Int)) := by go_simp
  have c2 : ((((w.alloc (.cells #[.pointer (some ⟨d, 0, none⟩)] 36)).alloc (.cells #[.slice A n c] 41)).alloc (.cells #[.int .i64 (p : Int)] 3)).alloc (.cells #[.func (.func 190) #[] #[.pointer (some ⟨w.heap.size, 0, none⟩), .pointer (some ⟨w.heap.size + 1 + 1, 0, none⟩), .pointer (some ⟨w.heap.size + 1, 0, none⟩)], .func (.func 81) #[.pointer (some ⟨d, 0, none⟩)] #[]] 260)).cell? ⟨w.heap.size + 1, 0, none⟩ = some (.slice A n c) := by go_simp
  generalize (((w.alloc (.cells #[.pointer (some ⟨d, 0, none⟩)] 36)).alloc (.cells #[.slice A n c] 41)).alloc (.cells #[.int .i64 (p : Int)] 3)).alloc (.cells #[.func (.func 190) #[] #[.pointer (some ⟨w.heap.size, 0, none⟩), .pointer (some ⟨w.heap.size + 1 + 1, 0, none⟩), .pointer (some ⟨w.heap.size + 1, 0, none⟩)], .func (.func 81) #[.pointer (some ⟨d, 0, none⟩)] #[]] 260) = W at hB c0 c1 c2 ⊢
  have Hw1 := Lib.hid (Hw.out W hB c0 c1 c2); clear c0 c1 c2
  refine wp_loop_rounds 3 ?_
  rw [rounds_succ]
  go_wp2_with fail
  refine Hw1.out.mono ?_; rintro e w2 ⟨rfl, ht⟩
  obtain ⟨rf, D2⟩ := R
  by_cases hz : rf = 0
  · subst hz
    obtain ⟨S2, hd2, hf2, hS2⟩ := ht
    have hfl := hd2.flush hF2 (by omega)
    obtain ⟨⟨rf2, D3⟩, hR2⟩ : ∃ R2, flushD D2 = R2 := ⟨_, rfl⟩
    rw [hR2] at hfl
    have HR2 := Lib.hid hR2; clear hR2
    have Hfl := Lib.hid hfl; clear hfl
    go_wp2_with fail
    rw [rounds_succ]
    go_wp2_with fail
    refine Hfl.out.mono ?_; rintro e w3 ⟨rfl, ht3⟩
    have ht4 := (Turn2.comp hf2 hS2 ht3).after hB
    by_cases hz2 : rf2 = 0
    · subst hz2
      go_wp2_with fail
      rw [rounds_succ]
      go_wp2_with fail
      rw [Exit.noGoto_ret]
      go_ret
      exact ⟨by simp [HR2.out], by simpa [HR2.out] using ht4⟩
    · go_wp2_with fail
      rw [Exit.noGoto_ret]
      go_ret
      exact ⟨by simp [HR2.out], by simpa [HR2.out] using ht4⟩
  · go_wp2_with fail
    rw [Exit.noGoto_ret]
    go_ret
    exact ⟨by simp [hz], by simpa [hz] using ht.after hB⟩

set_option maxRecDepth 100000 in
set_option maxHeartbeats 1000000 in
theorem RPut_c (gen : Nat) (A : Option Addr) (c : Nat) (key : List UInt8) (h : Duo w d u m D U S) (hF : Few D q) (hq : q ≤ 300000) (hU : U.length ≤ 300000) (hg : gen < 18446744073709551616) (hb : BytesAt w A key.length key) :
    Calls Try.prog 85 #[.pointer (some ⟨d, 0, none⟩), .pointer (some ⟨u, 0, none⟩), .int .u64 (gen : Int), .slice A key.length c] w fun e w' => e = .returned (.int .i64 (rputD D U gen key).1) ∧ Turn2 S d u m (rputD D U gen key).2.1 (rputD D U gen key).2.2 w w' := by
  unfold rputD
  by_cases hk : key.length = 32
  · rw [if_neg (by simp [hk])]
    have hr := fun W => Root_any (gen : Int) W (by omega) (by omega)
    rw [show (gen : Int) % 2 = (rplace gen : Int) by unfold rplace; omega] at hr
    have henc := h.encode (rplace gen : Int) (rootS gen key) A c (rootS_right gen hk) hb (by omega)
    have hlt := h.lt
    have hlen := encU_length U (rplace gen : Int) (rootS gen key)
    unfold secV at henc
    simp only [rootS] at henc
    rw [hk] at henc ⊢
    simp only [rootS] at henc hlen ⊢
    generalize encU U (rplace gen : Int) ⟨1, 0, 0, gen, key⟩ = R at henc hlen ⊢
    obtain ⟨b, V⟩ := R
    simp only at henc hlen ⊢
    have hwr := fun (W : World) (B : Option Addr) (cb : Nat) (h2 : Duo W d u m D V S) (hb2 : BytesAt W B 512 b) (hB : 0 < 512 → ∀ g o, B = some ⟨g, o, none⟩ → ¬ S g) => RWrite_c gen B 512 cb b h2 hF hq hg hb2 hB
    generalize stampD D (rplace gen : Int) b = R2 at hwr ⊢
    have Hr := Lib.hid hr; clear hr
    have Henc := Lib.hid henc; clear henc
    have Hwr := Lib.hid hwr; clear hwr
    have Hlt := Lib.hid hlt; clear hlt
    clear h hF hb
    go_enter Try.func85, Try.ntmps85
    go_wp2_with fail
    refine (Hr.out _).mono ?_; rintro e w1 ⟨rfl, rfl⟩
    go_wp2_with fail
    refine Henc.out.mono ?_; rintro e w1 ⟨A1, c1, rfl, hown, hd1, hf1⟩
    have hw1 := Hwr.out w1 A1 c1 hd1 (BytesAt.own hown) (fun _ g o e hs => by
      have h1 := Hlt.out g hs
      have h2 := (hown.lt g (by rw [e]; rfl)).1
      omega)
    have Hw1 := Lib.hid hw1; clear hw1 hown
    go_wp2_with fail
    refine Hw1.out.mono ?_; rintro e w2 ⟨rfl, ht⟩
    go_wp2_with fail
    go_ret
    exact ⟨rfl, Turn2.comp hf1 (fun _ h => .inl h) ht⟩
  · rw [if_pos (by simpa using hk)]
    have hk' : ¬ (key.length : Int) = 32 := by omega
    go_enter Try.func85, Try.ntmps85
    go_wp2_with fail
    go_ret
    exact ⟨rfl, Turn2.still h⟩

set_option maxRecDepth 100000 in
set_option maxHeartbeats 1000000 in
theorem RErase_c (gen : Nat) (h : Duo w d u m D U S) (hF : Few D q) (hq : q ≤ 300000) (hg : gen < 18446744073709551616) :
    Calls Try.prog 87 #[.pointer (some ⟨d, 0, none⟩), .int .u64 (gen : Int)] w fun e w' => e = .returned (.int .i64 (reraseD D gen).1) ∧ Turn2 S d u m (reraseD D gen).2 U w w' := by
  have hlt := h.lt
  have Hlt := Lib.hid hlt; clear hlt
  have Hd := Lib.hid h; clear h
  go_enter Try.func87, Try.ntmps87
  go_wp2_with fail
  refine (Blank_at _).mono ?_; rintro e w1 ⟨rfl, hblk, hb1⟩
  have hb := BytesAt.of_block 512 blankS_len hblk
  have Hw := Lib.hid (RWrite_c gen _ 512 512 blankS (Hd.out.below hb1) hF hq hg hb (fun _ g o e hs => by cases e; have := Hlt.out _ hs; omega))
  clear hblk hb
  go_wp2_with fail
  refine Hw.out.mono ?_; rintro e w2 ⟨rfl, ht⟩
  go_wp2_with fail
  go_ret
  exact ⟨rfl, ht.after hb1⟩

set_option maxRecDepth 100000 in
set_option maxHeartbeats 1000000 in
theorem RBlank_c (gen : Nat) (h : Duo w d u m D U S) (hg : gen < 18446744073709551616) :
    Calls Try.prog 88 #[.pointer (some ⟨d, 0, none⟩), .int .u64 (gen : Int)] w fun e w' => e = .returned (.tuple #[.bool (rblankD D gen).1, .int .i64 (rblankD D gen).2]) ∧ Below w.heap.size w w' := by
  have hr := fun W => Root_any (gen : Int) W (by omega) (by omega)
  rw [show (gen : Int) % 2 = (rplace gen : Int) by unfold rplace; omega] at hr
  have hrd := h.read (rplace gen : Int)
  unfold rblankD
  generalize readX D (rplace gen : Int) = R at hrd ⊢
  obtain ⟨b, f⟩ := R
  simp only at hrd ⊢
  have Hr := Lib.hid hr; clear hr
  have Hrd := Lib.hid hrd; clear hrd h
  by_cases hf : f = 0
  · subst hf
    go_enter Try.func88, Try.ntmps88
    go_wp2_with fail
    refine (Hr.out _).mono ?_; rintro e w1 ⟨rfl, rfl⟩
    go_wp2_with fail
    refine Hrd.out.mono ?_; rintro e w1 ⟨A1, c1, rfl, hb, hc, hl, hb1⟩
    have Hi := Lib.hid (IsBlank_any A1 _ c1 _ w1 hb hc (by omega))
    clear hb hc hl
    go_wp2_with fail
    refine Hi.out.mono ?_; rintro e w2 ⟨rfl, hb2⟩
    go_wp2_with fail
    go_ret2
    exact ⟨by simp, Bthen hb1 hb2⟩
  · go_enter Try.func88, Try.ntmps88
    go_wp2_with fail
    refine (Hr.out _).mono ?_; rintro e w1 ⟨rfl, rfl⟩
    go_wp2_with fail
    refine Hrd.out.mono ?_; rintro e w1 ⟨A1, c1, rfl, hb, hc, hl, hb1⟩
    clear hb hc hl
    go_wp2_with fail
    go_ret2
    exact ⟨by simp [hf], hb1⟩

/-- Is it the root of a gen? -/
theorem RMine_any (x : Sec) (A : Option Addr) (c : Nat) (f : Int) (gen : Nat) (xf xs xg : Nat) (h0 : w.cell? ⟨xf, 0, none⟩ = some (.int .i64 f)) (h1 : w.heap[xs]? = some (.cells #[.int .i64 x.kind, .int .u64 (x.life : Int), .int .i64 x.seq, .int .u64 (x.gen : Int), .slice A x.body.length c] 54 (0, 0)))
    (h2 : w.cell? ⟨xg, 0, none⟩ = some (.int .u64 (gen : Int))) :
    Calls Try.prog 160 #[.pointer (some ⟨xf, 0, none⟩), .pointer (some ⟨xs, 0, none⟩), .pointer (some ⟨xg, 0, none⟩)] w fun e w' => e = .returned (.bool (decide (f = 0 ∧ rootIs gen x))) ∧ w = w' := by
  obtain ⟨s0, s1, s2, s3, s4, sf⟩ := cells5 h1
  unfold rootIs
  by_cases e0 : f = 0
  case neg => 
    go_enter Try.func160, Try.ntmps160
    go_wp2_with fail
    go_ret
    exact ⟨ret_bool (by simp [e0]), rfl⟩
  by_cases e1 : x.kind = 1
  case neg => 
    go_enter Try.func160, Try.ntmps160
    go_wp2_with fail
    go_ret
    exact ⟨ret_bool (by simp [e1]), rfl⟩
  by_cases e2 : x.life = 0
  case neg => 
    have e2' : ¬ ((x.life : Int) = 0) := by omega
    go_enter Try.func160, Try.ntmps160
    go_wp2_with fail
    go_ret
    exact ⟨ret_bool (by simp [e2]), rfl⟩
  by_cases e3 : x.seq = 0
  case neg => 
    go_enter Try.func160, Try.ntmps160
    go_wp2_with fail
    go_ret
    exact ⟨ret_bool (by simp [e3]), rfl⟩
  by_cases e4 : x.gen = gen
  case neg => 
    have e4' : ¬ ((x.gen : Int) = (gen : Int)) := by omega
    go_enter Try.func160, Try.ntmps160
    go_wp2_with fail
    go_ret
    exact ⟨ret_bool (by simp [e4]), rfl⟩
  by_cases e5 : x.body.length = 32
  case neg => 
    have e5' : ¬ ((x.body.length : Int) = 32) := by omega
    go_enter Try.func160, Try.ntmps160
    go_wp2_with fail
    go_ret
    exact ⟨ret_bool (by simp [e5]; omega), rfl⟩
  go_enter Try.func160, Try.ntmps160
  go_wp2_with fail
  go_ret
  exact ⟨ret_bool (by simp [e0, e1, e2, e3, e4, e5]), rfl⟩

theorem rkey_len (K : List (List UInt8)) (gen : Nat) (b : List UInt8) : (rkeyB K gen b).1.length = 32 ∨ rkeyB K gen b = ([], 11) := by
  unfold rkeyB
  split
  · rename_i h
    exact .inl h.2.2.2.2.2
  · exact .inr rfl

set_option maxRecDepth 100000 in
set_option maxHeartbeats 1000000 in
theorem RGet_c (gen : Nat) (h : Duo w d u m D U S) (hg : gen < 18446744073709551616) :
    Calls Try.prog 86 #[.pointer (some ⟨d, 0, none⟩), .pointer (some ⟨u, 0, none⟩), .int .u64 (gen : Int)] w fun e w' => ∃ A c, e = .returned (.tuple #[.slice A (rgetD D U gen).1.length c, .int .i64 (rgetD D U gen).2]) ∧
      w'.ownsRow w.heap.size 5 1 (.slice A (rgetD D U gen).1.length c) (rgetD D U gen).1.length (bytesV (rgetD D U gen).1) ∧ Below w.heap.size w w' := by
  have hr := fun W => Root_any (gen : Int) W (by omega) (by omega)
  rw [show (gen : Int) % 2 = (rplace gen : Int) by unfold rplace; omega] at hr
  have hrd := fun W (hW : Below w.heap.size w W) => (h.below hW).read (rplace gen : Int)
  have hde := fun W (hW : Below w.heap.size w W) => (h.below hW).decode (rplace gen : Int)
  unfold rgetD
  generalize readX D (rplace gen : Int) = R at hrd ⊢
  obtain ⟨b, f⟩ := R
  simp only at hrd ⊢
  unfold rkeyB
  have Hr := Lib.hid hr; clear hr
  have Hrd := Lib.hid hrd; clear hrd h
  have Hde := Lib.hid hde; clear hde
  by_cases hf : f = 0
  · subst hf
    rw [if_neg (by simp)]
    generalize hR : decU U (rplace gen : Int) b = R
    have Hde' : Hid (∀ (W : World), Below w.heap.size w W → ∀ (A : Option Addr) (n c : Nat), BytesAt W A n b → n ≤ c → Calls Try.prog 58 #[.pointer (some ⟨u, 0, none⟩), .int .i64 (rplace gen : Int), .slice A n c] W fun e w' => DecPost R W e w') := Lib.hid fun W hW A n c hb hc => by
      rw [← hR]; exact Hde.out W hW A n c b hb hc
    clear Hde hR
    obtain ⟨f2, x⟩ := R
    simp only
    by_cases hm : f2 = 0 ∧ rootIs gen x
    · rw [if_pos hm]
      have hmd : decide (f2 = 0 ∧ rootIs gen x) = true := by simpa using hm
      have Hmd := Lib.hid hmd; clear hmd hm
      simp only
      go_enter Try.func86, Try.ntmps86
      go_wp2_with fail
      refine (Hr.out _).mono ?_; rintro e w1 ⟨rfl, rfl⟩
      go_wp2_with fail
      have hB0 : Below w.heap.size w (w.alloc (.cells #[.int .u64 (gen : Int)] 28)) := Bbox _ _
      have hG0 := heap_alloc_new w (.cells #[.int .u64 (gen : Int)] 28)
      generalize w.alloc (.cells #[.int .u64 (gen : Int)] 28) = W0 at hB0 hG0 ⊢
      refine (Hrd.out W0 hB0).mono ?_; rintro e w1 ⟨A1, c1, rfl, hb, hc, hl, hb1⟩
      have hB1 := Bthen hB0 hb1
      have hG1 := (hb1.block _ (blk_lt hG0)).trans hG0
      have Hd1 := Lib.hid (Hde'.out w1 hB1 A1 _ c1 hb hc)
      clear hb hc hl hG0
      go_wp2_with fail
      refine Hd1.out.mono ?_; rintro e w2 ⟨A2, c2, rfl, hown, hb2⟩
      have hB2 := Bthen hB1 hb2
      have hG2 := (hb2.block _ (blk_lt hG1)).trans hG1
      have Hown := Lib.hid hown; clear hown
      unfold secV
      simp only
      go_wp2_with fail
      have hB3 : Below w.heap.size w ((w2.alloc (.cells #[.int .i64 x.kind, .int .u64 (x.life : Int), .int .i64 x.seq, .int .u64 (x.gen : Int), .slice A2 x.body.length c2] 54)).alloc (.cells #[.int .i64 f2] 37)) := Bnew (Bnew hB2 _) _
      have hb3 : Below w2.heap.size w2 ((w2.alloc (.cells #[.int .i64 x.kind, .int .u64 (x.life : Int), .int .i64 x.seq, .int .u64 (x.gen : Int), .slice A2 x.body.length c2] 54)).alloc (.cells #[.int .i64 f2] 37)) := Bnew (Bbox _ _) _
      have hX : ((w2.alloc (.cells #[.int .i64 x.kind, .int .u64 (x.life : Int), .int .i64 x.seq, .int .u64 (x.gen : Int), .slice A2 x.body.length c2] 54)).alloc (.cells #[.int .i64 f2] 37)).heap[w2.heap.size]? = some (.cells #[.int .i64 x.kind, .int .u64 (x.life : Int), .int .i64 x.seq, .int .u64 (x.gen : Int), .slice A2 x.body.length c2] 54 (0, 0)) := by
        rw [Below.heap_alloc _ _ _ (by simp)]; exact heap_alloc_new _ _
      have hY : ((w2.alloc (.cells #[.int .i64 x.kind, .int .u64 (x.life : Int), .int .i64 x.seq, .int .u64 (x.gen : Int), .slice A2 x.body.length c2] 54)).alloc (.cells #[.int .i64 f2] 37)).cell? ⟨w2.heap.size + 1, 0, none⟩ = some (.int .i64 f2) := by go_simp
      generalize (w2.alloc (.cells #[.int .i64 x.kind, .int .u64 (x.life : Int), .int .i64 x.seq, .int .u64 (x.gen : Int), .slice A2 x.body.length c2] 54)).alloc (.cells #[.int .i64 f2] 37) = W3 at hB3 hb3 hX hY ⊢
      have hG3 := (hb3.block _ (blk_lt hG2)).trans hG2
      have hm3 := RMine_any x A2 c2 f2 gen _ _ _ hY hX (cell_of_one hG3).1
      rw [Hmd.out] at hm3
      have Hm3 := Lib.hid hm3; clear hm3
      refine Hm3.out.mono ?_; rintro e w4 ⟨rfl, rfl⟩
      obtain ⟨x0, x1, x2, x3, x4, xf⟩ := cells5 hX
      go_wp2_with fail
      go_ret2
      exact ⟨A2, c2, rfl, own_below (own_mono Hown.out hB1.size) hb3, hB3⟩
    · rw [if_neg hm]
      have hmd : decide (f2 = 0 ∧ rootIs gen x) = false := by simpa using hm
      have Hmd := Lib.hid hmd; clear hmd hm
      go_enter Try.func86, Try.ntmps86
      go_wp2_with fail
      refine (Hr.out _).mono ?_; rintro e w1 ⟨rfl, rfl⟩
      go_wp2_with fail
      have hB0 : Below w.heap.size w (w.alloc (.cells #[.int .u64 (gen : Int)] 28)) := Bbox _ _
      have hG0 := heap_alloc_new w (.cells #[.int .u64 (gen : Int)] 28)
      generalize w.alloc (.cells #[.int .u64 (gen : Int)] 28) = W0 at hB0 hG0 ⊢
      refine (Hrd.out W0 hB0).mono ?_; rintro e w1 ⟨A1, c1, rfl, hb, hc, hl, hb1⟩
      have hB1 := Bthen hB0 hb1
      have hG1 := (hb1.block _ (blk_lt hG0)).trans hG0
      have Hd1 := Lib.hid (Hde'.out w1 hB1 A1 _ c1 hb hc)
      clear hb hc hl hG0
      go_wp2_with fail
      refine Hd1.out.mono ?_; rintro e w2 ⟨A2, c2, rfl, hown, hb2⟩
      have hB2 := Bthen hB1 hb2
      have hG2 := (hb2.block _ (blk_lt hG1)).trans hG1
      have Hown := Lib.hid hown; clear hown
      unfold secV
      simp only
      go_wp2_with fail
      have hB3 : Below w.heap.size w ((w2.alloc (.cells #[.int .i64 x.kind, .int .u64 (x.life : Int), .int .i64 x.seq, .int .u64 (x.gen : Int), .slice A2 x.body.length c2] 54)).alloc (.cells #[.int .i64 f2] 37)) := Bnew (Bnew hB2 _) _
      have hb3 : Below w2.heap.size w2 ((w2.alloc (.cells #[.int .i64 x.kind, .int .u64 (x.life : Int), .int .i64 x.seq, .int .u64 (x.gen : Int), .slice A2 x.body.length c2] 54)).alloc (.cells #[.int .i64 f2] 37)) := Bnew (Bbox _ _) _
      have hX : ((w2.alloc (.cells #[.int .i64 x.kind, .int .u64 (x.life : Int), .int .i64 x.seq, .int .u64 (x.gen : Int), .slice A2 x.body.length c2] 54)).alloc (.cells #[.int .i64 f2] 37)).heap[w2.heap.size]? = some (.cells #[.int .i64 x.kind, .int .u64 (x.life : Int), .int .i64 x.seq, .int .u64 (x.gen : Int), .slice A2 x.body.length c2] 54 (0, 0)) := by
        rw [Below.heap_alloc _ _ _ (by simp)]; exact heap_alloc_new _ _
      have hY : ((w2.alloc (.cells #[.int .i64 x.kind, .int .u64 (x.life : Int), .int .i64 x.seq, .int .u64 (x.gen : Int), .slice A2 x.body.length c2] 54)).alloc (.cells #[.int .i64 f2] 37)).cell? ⟨w2.heap.size + 1, 0, none⟩ = some (.int .i64 f2) := by go_simp
      generalize (w2.alloc (.cells #[.int .i64 x.kind, .int .u64 (x.life : Int), .int .i64 x.seq, .int .u64 (x.gen : Int), .slice A2 x.body.length c2] 54)).alloc (.cells #[.int .i64 f2] 37) = W3 at hB3 hb3 hX hY ⊢
      have hG3 := (hb3.block _ (blk_lt hG2)).trans hG2
      have hm3 := RMine_any x A2 c2 f2 gen _ _ _ hY hX (cell_of_one hG3).1
      rw [Hmd.out] at hm3
      have Hm3 := Lib.hid hm3; clear hm3
      refine Hm3.out.mono ?_; rintro e w4 ⟨rfl, rfl⟩
      obtain ⟨x0, x1, x2, x3, x4, xf⟩ := cells5 hX
      go_wp2_with fail
      go_ret2
      exact ⟨none, 0, rfl, World.ownsRow_nil _ _ _ _, hB3⟩
  · rw [if_pos hf]
    go_enter Try.func86, Try.ntmps86
    go_wp2_with fail
    refine (Hr.out _).mono ?_; rintro e w1 ⟨rfl, rfl⟩
    go_wp2_with fail
    refine (Hrd.out _ (Bbox _ _)).mono ?_; rintro e w1 ⟨A1, c1, rfl, hb, hc, hl, hb1⟩
    clear hb hc hl
    go_wp2_with fail
    go_ret2
    exact ⟨none, 0, rfl, World.ownsRow_nil _ _ _ _, Bthen (Bbox _ _) hb1⟩

end
end Go.Proofs.Ytdjndeleafhglaa
namespace Go.Proofs.Ytdjndeleafhglaa
open Go.RowKit

theorem BytesAt.frame {T : Nat → Prop} {w w' : World} {A : Option Addr} {n : Nat} {l : List UInt8} (h : BytesAt w A n l) (hf : Frame T w w') (hT : 0 < n → ∀ g o, A = some ⟨g, o, none⟩ → ¬ T g) : BytesAt w' A n l :=
  ⟨h.len, fun hn => by
    obtain ⟨g, o, hA, hr⟩ := h.at_ hn
    exact ⟨g, o, hA, rangeAt_keep hr (hf.block g (rangeAt_lt hr (by rw [bytesV_length, h.len]; exact hn)) (hT hn g o hA))⟩⟩

section
variable {w : World} {d u m q : Nat} {D : DS} {U : List (List UInt8)} {S : Nat → Prop}

theorem xor_u64 (a b : Nat) (ha : a < 18446744073709551616) (hb : b < 18446744073709551616) : bits .xor .u64 (a : Int) (b : Int) = ((a ^^^ b : Nat) : Int) := by
  have h : a ^^^ b < 18446744073709551616 := Nat.xor_lt_two_pow (n := 64) (by omega) (by omega)
  change IntKind.u64.wrap ((BitVec.ofInt 64 (a : Int) ^^^ BitVec.ofInt 64 (b : Int)).toNat : Int) = _
  rw [BitVec.toNat_xor, BitVec.ofInt_natCast, BitVec.ofInt_natCast, BitVec.toNat_ofNat, BitVec.toNat_ofNat, Nat.mod_eq_of_lt (show a < 2 ^ 64 by omega), Nat.mod_eq_of_lt (show b < 2 ^ 64 by omega)]
  exact wrap_u64_of _ h

set_option maxRecDepth 100000 in
set_option maxHeartbeats 1000000 in
theorem RSettle_c (gen : Nat) (h : Duo w d u m D U S) (hF : Few D q) (hq : q ≤ 300000) (hg : gen < 18446744073709551616) :
    Calls Try.prog 91 #[.pointer (some ⟨d, 0, none⟩), .pointer (some ⟨u, 0, none⟩), .int .u64 (gen : Int)] w fun e w' => ∃ A c, e = .returned (.tuple #[.slice A (rsetD D U gen).1.1.length c, .int .i64 (rsetD D U gen).1.2]) ∧
      BytesAt w' A (rsetD D U gen).1.1.length (rsetD D U gen).1.1 ∧ (rsetD D U gen).1.1.length ≤ c ∧ Turn2 S d u m (rsetD D U gen).2 U w w' := by
  have hx : bits .xor .u64 (gen : Int) 1 = ((gen ^^^ 1 : Nat) : Int) := xor_u64 gen 1 hg (by decide)
  have hog := xor_lt64 hg
  have hget := RGet_c gen h hg
  have hlt := h.lt
  have hbl := fun W (hW : Below w.heap.size w W) => RBlank_c (gen ^^^ 1) (h.below hW) hog
  have her := fun W (hW : Below w.heap.size w W) => RErase_c (gen ^^^ 1) (h.below hW) hF hq hog
  have Hd := Lib.hid h; clear h
  have Hx := Lib.hid hx; clear hx
  unfold rsetD
  generalize gen ^^^ 1 = og at Hx hog hbl her ⊢
  generalize rgetD D U gen = G at hget ⊢
  generalize rblankD D og = B at hbl ⊢
  generalize reraseD D og = E at her ⊢
  obtain ⟨k, f⟩ := G
  obtain ⟨bk, fb⟩ := B
  obtain ⟨fe, D2⟩ := E
  have Hget := Lib.hid hget; clear hget
  have Hbl := Lib.hid hbl; clear hbl
  have Her := Lib.hid her; clear her
  have Hlt := Lib.hid hlt; clear hlt
  by_cases hf : f = 0
  case neg =>
    rw [if_pos (show (k, f).2 ≠ 0 from hf)]
    simp only at Hget ⊢
    go_enter Try.func91, Try.ntmps91
    go_wp2_with fail
    refine Hget.out.mono ?_; rintro e w1 ⟨A1, c1, rfl, hown, hb1⟩
    have Hown := Lib.hid hown; clear hown
    go_wp2_with fail
    go_ret2
    exact ⟨none, 0, rfl, BytesAt.nil _, Nat.le_refl _, Turn2.of_below Hd.out hb1⟩
  subst hf
  rw [if_neg (show ¬ (k, (0 : Int)).2 ≠ 0 by simp)]
  by_cases hfb : fb = 0
  case neg =>
    rw [if_neg (show ¬ (bk, fb).2 = 0 from hfb)]
    simp only at Hget Hbl ⊢
    go_enter Try.func91, Try.ntmps91
    go_wp2_with fail
    refine Hget.out.mono ?_; rintro e w1 ⟨A1, c1, rfl, hown, hb1⟩
    have Hown := Lib.hid hown; clear hown
    go_wp2_with fail
    rw [Hx.out]
    refine (Hbl.out w1 hb1).mono ?_; rintro e w2 ⟨rfl, hb2⟩
    go_wp2_with fail
    go_ret2
    exact ⟨none, 0, rfl, BytesAt.nil _, Nat.le_refl _, Turn2.of_below Hd.out (Bthen hb1 hb2)⟩
  subst hfb
  rw [if_pos (show (bk, (0 : Int)).2 = 0 from rfl)]
  cases bk with
  | true =>
    rw [if_pos (show ((true, (0 : Int)) : Bool × Int).1 = true from rfl)]
    simp only at Hget Hbl ⊢
    go_enter Try.func91, Try.ntmps91
    go_wp2_with fail
    refine Hget.out.mono ?_; rintro e w1 ⟨A1, c1, rfl, hown, hb1⟩
    have Hown := Lib.hid hown; clear hown
    go_wp2_with fail
    rw [Hx.out]
    refine (Hbl.out w1 hb1).mono ?_; rintro e w2 ⟨rfl, hb2⟩
    go_wp2_with fail
    go_ret2
    exact ⟨A1, c1, rfl, (BytesAt.own Hown.out).below hb2, own_cap Hown.out, Turn2.of_below Hd.out (Bthen hb1 hb2)⟩
  | false =>
    rw [if_neg (show ¬ ((false, (0 : Int)) : Bool × Int).1 = true by simp)]
    by_cases hfe : fe = 0
    · subst hfe
      rw [if_neg (show ¬ ((0 : Int), D2).1 ≠ 0 by simp)]
      simp only at Hget Hbl Her ⊢
      go_enter Try.func91, Try.ntmps91
      go_wp2_with fail
      refine Hget.out.mono ?_; rintro e w1 ⟨A1, c1, rfl, hown, hb1⟩
      have Hown := Lib.hid hown; clear hown
      go_wp2_with fail
      rw [Hx.out]
      refine (Hbl.out w1 hb1).mono ?_; rintro e w2 ⟨rfl, hb2⟩
      go_wp2_with fail
      refine (Her.out w2 (Bthen hb1 hb2)).mono ?_; rintro e w3 ⟨rfl, ht⟩
      have Ht := Lib.hid ht; clear ht
      go_wp2_with fail
      go_ret2
      refine ⟨A1, c1, rfl, ?_, own_cap Hown.out, Ht.out.after (Bthen hb1 hb2)⟩
      obtain ⟨S2, h1, h2, h3⟩ := Ht.out
      refine ((BytesAt.own Hown.out).below hb2).frame h2 (fun _ g o e hs => ?_)
      have q1 := Hlt.out g hs
      have q2 := (Hown.out.lt g (by rw [e]; rfl)).1
      omega
    · rw [if_pos (show (fe, D2).1 ≠ 0 from hfe)]
      simp only at Hget Hbl Her ⊢
      go_enter Try.func91, Try.ntmps91
      go_wp2_with fail
      refine Hget.out.mono ?_; rintro e w1 ⟨A1, c1, rfl, hown, hb1⟩
      have Hown := Lib.hid hown; clear hown
      go_wp2_with fail
      rw [Hx.out]
      refine (Hbl.out w1 hb1).mono ?_; rintro e w2 ⟨rfl, hb2⟩
      go_wp2_with fail
      refine (Her.out w2 (Bthen hb1 hb2)).mono ?_; rintro e w3 ⟨rfl, ht⟩
      have Ht := Lib.hid ht; clear ht
      go_wp2_with fail
      go_ret2
      exact ⟨none, 0, rfl, BytesAt.nil _, Nat.le_refl _, Ht.out.after (Bthen hb1 hb2)⟩

theorem RPut_nil (gen : Nat) (v : Option Addr) (A : Option Addr) (n c : Nat) (w : World) : Calls Try.prog 85 #[.pointer none, .pointer v, .int .u64 (gen : Int), .slice A n c] w fun e w' => e = .returned (.int .i64 1) ∧ w = w' := by
  go_enter Try.func85, Try.ntmps85
  go_wp2_with fail
  go_ret
  exact ⟨rfl, rfl⟩
theorem RPut_bare (gen d : Nat) (A : Option Addr) (n c : Nat) (w : World) : Calls Try.prog 85 #[.pointer (some ⟨d, 0, none⟩), .pointer none, .int .u64 (gen : Int), .slice A n c] w fun e w' => e = .returned (.int .i64 1) ∧ w = w' := by
  go_enter Try.func85, Try.ntmps85
  go_wp2_with fail
  go_ret
  exact ⟨rfl, rfl⟩
theorem RErase_nil (gen : Nat) (w : World) : Calls Try.prog 87 #[.pointer none, .int .u64 (gen : Int)] w fun e w' => e = .returned (.int .i64 1) ∧ w = w' := by
  go_enter Try.func87, Try.ntmps87
  go_wp2_with fail
  go_ret
  exact ⟨rfl, rfl⟩
theorem RGet_nil (gen : Nat) (v : Option Addr) (w : World) : Calls Try.prog 86 #[.pointer none, .pointer v, .int .u64 (gen : Int)] w fun e w' => e = .returned (.tuple #[.slice none 0 0, .int .i64 1]) ∧ Below w.heap.size w w' := by
  go_enter Try.func86, Try.ntmps86
  go_wp2_with fail
  go_ret2
  exact ⟨rfl, Bbox _ _⟩

end
end Go.Proofs.Ytdjndeleafhglaa
namespace Go.Proofs.Ytdjndeleafhglaa
open Go.RowKit

/-- The worlds in which nothing but what T names has turned. -/
abbrev FrameW (T : Nat → Prop) (W : World) : World → Prop := Frame T W
theorem inF_more {T : Nat → Prop} {W w0 : World} (h : FrameW T W w0) : ∃ x : InS (FrameW T W), w0 = x.w := ⟨⟨w0, h⟩, rfl⟩
theorem Frame.heap {T : Nat → Prop} {W W' : World} (h : Frame T W W') {X : Nat} {o : Obj} (hX : W.heap[X]? = some o) (hT : ¬ T X) : W'.heap[X]? = some o :=
  (h.block X (Array.getElem?_eq_some_iff.1 hX).1 hT).trans hX
theorem Frame.then {T : Nat → Prop} {W a b : World} (h : Frame T W a) (hb : Below a.heap.size a b) : Frame T W b := h.trans (Frame.of_below (S := T) hb) (fun _ hj => .inl hj)
theorem Frame.cell {T : Nat → Prop} {W W' : World} (h : Frame T W W') {g o : Nat} {v : Value} (hc : W.cell? ⟨g, o, none⟩ = some v) (hT : ¬ T g) : W'.cell? ⟨g, o, none⟩ = some v :=
  (World.cell?_of_block (w := W) (h.block g (World.block_lt_of_cell? W _ hc) hT)).trans hc

theorem cells3 {w : World} {x : Nat} {a b c : Value} {t : TypeId} (h : w.heap[x]? = some (.cells #[a, b, c] t (0, 0))) : w.cell? ⟨x, 0, none⟩ = some a ∧ w.cell? ⟨x, 1, none⟩ = some b ∧ w.cell? ⟨x, 2, none⟩ = some c := by
  refine ⟨?_, ?_, ?_⟩
  all_goals (rw [cell_of_row _ _ _ _ _ _ h]; rfl)

/-- In a statement: both made since W, which lies as it lay; and what lay in the blocks of K in w1 lies so still. -/
structure RigK (W w1 : World) (K : Nat → Prop) (w : World) (d u m : Nat) (D : DS) (U : List (List UInt8)) : Prop where
  ex : ∃ S, Duo w d u m D U S ∧ Below W.heap.size W w ∧ (∀ k, S k → W.heap.size ≤ k) ∧ (∀ k, K k → ¬ S k ∧ k < w.heap.size ∧ w.heap[k]? = w1.heap[k]?)
section
variable {W w1 w w' : World} {K : Nat → Prop} {d u m : Nat} {D D' : DS} {U U' : List (List UInt8)} {S : Nat → Prop}
theorem RigK.next (hb : Below W.heap.size W w) (hS : ∀ k, S k → W.heap.size ≤ k) (hK : ∀ k, K k → ¬ S k ∧ k < w.heap.size ∧ w.heap[k]? = w1.heap[k]?) (ht : Turn2 S d u m D' U' w w') : RigK W w1 K w' d u m D' U' := by
  have hl := ht.low hS hb.size
  obtain ⟨S', h1, h2, h3⟩ := ht
  have hz := hb.size
  refine ⟨S', h1, hb.trans hl, fun k hk => (h3 k hk).elim (hS k) (fun h => by omega), fun k hk => ?_⟩
  obtain ⟨k1, k2, k3⟩ := hK k hk
  exact ⟨fun hs => (h3 k hs).elim k1 (fun h => by omega), Nat.lt_of_lt_of_le k2 h2.size, (h2.block k k2 k1).trans k3⟩
theorem RigK.then (h : RigK W w1 K w d u m D U) (hb : Below w.heap.size w w') : RigK W w1 K w' d u m D U := by
  obtain ⟨S, h1, h2, h3, h4⟩ := h.ex
  exact ⟨S, h1.below hb, Bthen h2 hb, h3, fun k hk => ⟨(h4 k hk).1, Nat.lt_of_lt_of_le (h4 k hk).2.1 hb.size, (hb.block k (h4 k hk).2.1).trans (h4 k hk).2.2⟩⟩
/-- From here on blocks are kept that are none of the pair's. -/
theorem RigK.of (hd : Duo w d u m D U S) (hb : Below W.heap.size W w) (hS : ∀ k, S k → W.heap.size ≤ k) (hK : ∀ k, K k → ¬ S k ∧ k < w.heap.size) : RigK W w K w d u m D U :=
  ⟨S, hd, hb, hS, fun k hk => ⟨(hK k hk).1, (hK k hk).2, rfl⟩⟩
theorem RigK.rig (h : RigK W w1 K w d u m D U) : Rig W w d u m D U := by
  obtain ⟨S, h1, h2, h3, _⟩ := h.ex
  exact ⟨S, h1, h2, h3⟩
end

end Go.Proofs.Ytdjndeleafhglaa
namespace Go.Proofs.Ytdjndeleafhglaa

theorem text_inj {p : Int} {x y : Sec} (hx : rightS p x = 0) (hl : x.life < 18446744073709551616) (hg : x.gen < 18446744073709551616) (hy : rightS p y = 0) (hl' : y.life < 18446744073709551616) (hg' : y.gen < 18446744073709551616) (h : textS p x = textS p y) : x = y := by
  have h1 := ofS_textS hx hl hg
  have h2 := ofS_textS hy hl' hg'
  rw [h, h2] at h1
  exact (Option.some.inj h1).symm
theorem decU_of {U : List (List UInt8)} {p : Int} {b : List UInt8} {x : Sec} (h : decU U p b = (0, x)) : ofS p (b.take 504) = some x := by
  obtain ⟨h1, h2, _⟩ := decU_ok h
  unfold decU at h
  rw [if_neg (by omega), if_neg h2] at h
  split at h
  · simp at h
  · rename_i y hy
    split at h
    · rw [hy]; simpa using h
    · simp at h
theorem ofS_gen {p : Int} {t : List UInt8} {x : Sec} (h : ofS p t = some x) : x.life < 18446744073709551616 ∧ x.gen < 18446744073709551616 := readS_gen (ofS_some h).2.2
/-- Two that are read at a place with one sum are one. -/
theorem sum_inj {U : List (List UInt8)} (hU : U.length ≤ 1000000) {p : Int} {b c : List UInt8} {x y : Sec} (hb : decU U p b = (0, x)) (hc : decU U p c = (0, y)) (h : b.drop 504 = c.drop 504) : x = y := by
  obtain ⟨_, _, b3, b4, b5, b6⟩ := decU_ok hb
  obtain ⟨_, _, c3, c4, c5, c6⟩ := decU_ok hc
  have hi : U.idxOf (textS p x) = U.idxOf (textS p y) := by
    have h1 := List.idxOf_lt_length_of_mem b5
    have h2 := List.idxOf_lt_length_of_mem c5
    exact markB_inj (by omega) (by omega) (by rw [← b6, ← c6, h])
  have ht : textS p x = textS p y := by
    have h1 := List.getElem_idxOf (List.idxOf_lt_length_of_mem b5)
    have h2 := List.getElem_idxOf (List.idxOf_lt_length_of_mem c5)
    rw [← h1, ← h2]
    congr 1
  have g1 := ofS_gen (decU_of hb)
  have g2 := ofS_gen (decU_of hc)
  exact text_inj b3 g1.1 g1.2 c3 g2.1 g2.2 ht

/-- What is read of a torn sector: the new one, or one whose sum the old bytes bear. -/
theorem torn_reads {U V : List (List UInt8)} {p : Int} {x y : Sec} {m : Nat} {old : List UInt8} (hx : rightS p x = 0) (hl : x.life < 18446744073709551616) (hg : x.gen < 18446744073709551616) (_ho : old.length = 512) (hm : m ≤ 512)
    (h : decU V p ((encU U p x).1.take m ++ old.drop m) = (0, y)) : y = x ∨ ((encU U p x).1.take m ++ old.drop m).drop 504 = old.drop 504 := by
  have hlen := encU_length U p x
  by_cases h5 : 504 < m
  · left
    have ht : ((encU U p x).1.take m ++ old.drop m).take 504 = textS p x := by
      rw [List.take_append_of_le_length (by rw [List.length_take, hlen]; omega), List.take_take, Nat.min_eq_left (by omega), encU_take]
    have h1 := decU_of h
    rw [ht, ofS_textS hx hl hg] at h1
    exact (Option.some.inj h1).symm
  · right
    rw [List.drop_append, List.drop_of_length_le (by rw [List.length_take, hlen]; omega), List.nil_append, List.length_take, hlen, Nat.min_eq_left (by omega), List.drop_drop]
    congr 1
    omega
/-- Over blank bytes: the new one, or none. -/
theorem torn_blank {U V : List (List UInt8)} {p : Int} {x y : Sec} {m : Nat} (hx : rightS p x = 0) (hl : x.life < 18446744073709551616) (hg : x.gen < 18446744073709551616) (hm : m ≤ 512)
    (h : decU V p ((encU U p x).1.take m ++ blankS.drop m) = (0, y)) : y = x := by
  rcases torn_reads hx hl hg (show blankS.length = 512 from List.length_replicate) hm h with h1 | h1
  · exact h1
  · exfalso
    obtain ⟨_, _, _, _, _, h6⟩ := decU_ok h
    rw [h1] at h6
    unfold blankS markB at h6
    rw [List.drop_replicate] at h6
    have := congrArg (fun l : List UInt8 => l.head?) h6
    simp at this
/-- Over a sector that is read: the new one, or the old. -/
theorem torn_old {U V : List (List UInt8)} (hV : V.length ≤ 1000000) {p : Int} {x y z : Sec} {m : Nat} {old : List UInt8} (hx : rightS p x = 0) (hl : x.life < 18446744073709551616) (hg : x.gen < 18446744073709551616) (hm : m ≤ 512)
    (hz : decU V p old = (0, z)) (h : decU V p ((encU U p x).1.take m ++ old.drop m) = (0, y)) : y = x ∨ y = z := by
  obtain ⟨ho, _⟩ := decU_ok hz
  rcases torn_reads hx hl hg ho hm h with h1 | h1
  · exact .inl h1
  · exact .inr (sum_inj hV h hz h1)

end Go.Proofs.Ytdjndeleafhglaa
namespace Go.Proofs.Ytdjndeleafhglaa

/-- Which life counts. -/
structure SupV where
  life : Nat
  base : Int
  gen : Nat
deriving DecidableEq

def supZ : SupV := ⟨0, 0, 0⟩
def gMark (a d l : Int) : List UInt8 := if gRight a d l = true then [UInt8.ofNat a.toNat, UInt8.ofNat d.toNat, UInt8.ofNat l.toNat] else []
def superS (a d l : Int) (x : SupV) : Sec := ⟨2, x.life, x.base, x.gen, gMark a d l⟩
def splace (life : Nat) : Nat := 2 + life % 2
/-- The super of a sector at a place. -/
def superOf (a d l : Int) (p : Nat) (x : Sec) : Option SupV := if x.kind = 2 ∧ splace x.life = p ∧ x.body = gMark a d l then some ⟨x.life, x.seq, x.gen⟩ else none
/-- .. of bytes there. -/
def superB (U : List (List UInt8)) (a d l : Int) (p : Nat) (b : List UInt8) : Option SupV := if (decU U (p : Int) b).1 = 0 then superOf a d l p (decU U (p : Int) b).2 else none
/-- The greater life of two. -/
def bestS : Option SupV → Option SupV → Option SupV
  | none, y => y
  | some x, none => some x
  | some x, some y => if x.life < y.life then some y else some x

/-- May there be supers on a disk? -/
def srightD (D : DS) (a d l : Int) : Int := if gRight a d l = true ∧ (D.n : Int) = gSize a d l then 0 else 2
def swriteD (D : DS) (U : List (List UInt8)) (a d l : Int) (x : SupV) : Int × DS × List (List UInt8) :=
  if srightD D a d l ≠ 0 then (2, D, U)
  else if rightS (splace x.life : Int) (superS a d l x) ≠ 0 then (rightS (splace x.life : Int) (superS a d l x), D, U)
  else ((stampD D (splace x.life : Int) (encU U (splace x.life : Int) (superS a d l x)).1).1, (stampD D (splace x.life : Int) (encU U (splace x.life : Int) (superS a d l x)).1).2, (encU U (splace x.life : Int) (superS a d l x)).2)
/-- What is at a place: the super, or none, and why not. -/
def satD (D : DS) (U : List (List UInt8)) (a d l : Int) (p : Int) : Option SupV × Int :=
  if srightD D a d l ≠ 0 then (none, 2)
  else if p = 2 ∨ p = 3 then (if (readX D p).2 ≠ 0 then (none, (readX D p).2) else (superB U a d l p.toNat (readX D p).1, 0))
  else (none, 2)
def sreadD (D : DS) (U : List (List UInt8)) (a d l : Int) : SupV × Int :=
  if srightD D a d l ≠ 0 then (supZ, 2)
  else if (satD D U a d l 2).2 ≠ 0 then (supZ, (satD D U a d l 2).2)
  else if (satD D U a d l 3).2 ≠ 0 then (supZ, (satD D U a d l 3).2)
  else match bestS (satD D U a d l 2).1 (satD D U a d l 3).1 with
    | some x => (x, 0)
    | none => (supZ, 11)
/-- Both places are blank behind it. -/
def sclearD (D : DS) (a d l : Int) : Int × DS :=
  if srightD D a d l ≠ 0 then (2, D)
  else if (writeD D 2 blankS).1 ≠ 0 then writeD D 2 blankS
  else if (writeD (writeD D 2 blankS).2 3 blankS).1 ≠ 0 then writeD (writeD D 2 blankS).2 3 blankS
  else flushD (writeD (writeD D 2 blankS).2 3 blankS).2

theorem splace_cases (life : Nat) : splace life = 2 ∨ splace life = 3 := by unfold splace; omega
theorem gMark_len (a d l : Int) : (gMark a d l).length ≤ 3 := by unfold gMark; split <;> simp
theorem superS_right {a d l : Int} {x : SupV} (h0 : 0 ≤ x.base) (h1 : x.base ≤ 1073741824) : rightS (splace x.life : Int) (superS a d l x) = 0 := by
  have h2 := splace_cases x.life
  have h3 := gMark_len a d l
  exact rightS_ok.2 ⟨by simp [superS], by simp [superS], by omega, by omega, h0, h1, by simp only [superS]; omega⟩
theorem superS_bad {a d l : Int} {x : SupV} (h : x.base < 0 ∨ 1073741824 < x.base) : rightS (splace x.life : Int) (superS a d l x) = 2 := by
  unfold rightS
  rw [if_pos]
  simp only [superS]
  omega
theorem gSize_ge {a d l : Int} (h : gRight a d l = true) : 8 ≤ gSize a d l ∧ gSize a d l ≤ 238 := by
  have h1 := gSize_yes h
  have h2 := gPages_pos h
  have h3 := gSize_bd a d l
  obtain ⟨_, _, h7, _, h5, _⟩ := gRight_iff.1 h
  omega

/-- On a calm disk of its geometry. -/
structure SupOk (D : DS) (a d l : Int) : Prop where
  calm : Calm D
  right : gRight a d l = true
  size : (D.n : Int) = gSize a d l
theorem SupOk.r {D : DS} {a d l : Int} (h : SupOk D a d l) : srightD D a d l = 0 := by unfold srightD; rw [if_pos ⟨h.right, h.size⟩]
theorem SupOk.n {D : DS} {a d l : Int} (h : SupOk D a d l) : 8 ≤ D.n := by have := gSize_ge h.right; have := h.size; omega
theorem sat_calm {D : DS} {a d l : Int} (h : SupOk D a d l) (U : List (List UInt8)) {p : Nat} (hp : p = 2 ∨ p = 3) : satD D U a d l (p : Int) = (superB U a d l p (D.kept p), 0) := by
  have hn := h.n
  unfold satD
  rw [h.r, if_neg (by simp), if_pos (by omega), h.calm.read (by omega), if_neg (by simp), Int.toNat_natCast]
theorem sread_calm {D : DS} {a d l : Int} (h : SupOk D a d l) (U : List (List UInt8)) :
    sreadD D U a d l = match bestS (superB U a d l 2 (D.kept 2)) (superB U a d l 3 (D.kept 3)) with | some x => (x, 0) | none => (supZ, 11) := by
  have h2 := sat_calm h U (p := 2) (.inl rfl)
  have h3 := sat_calm h U (p := 3) (.inr rfl)
  simp only [Int.cast_ofNat_Int] at h2 h3
  unfold sreadD
  rw [h.r, h2, h3, if_neg (by simp), if_neg (by simp), if_neg (by simp)]

theorem superB_blank (U : List (List UInt8)) (a d l : Int) (p : Nat) : superB U a d l p blankS = none := by
  have h : decU U (p : Int) blankS = (7, secZero) := by
    unfold decU
    rw [if_neg (by rw [blankS_len]; simp), if_pos rfl]
  unfold superB
  rw [h, if_neg (by simp)]
theorem superOf_S (a d l : Int) (x : SupV) : superOf a d l (splace x.life) (superS a d l x) = some x := by
  unfold superOf
  rw [if_pos ⟨rfl, rfl, rfl⟩]
  rfl
theorem superB_enc {U V : List (List UInt8)} {a d l : Int} {p : Nat} {x : Sec} (h : rightS (p : Int) x = 0) (hl : x.life < 18446744073709551616) (hg : x.gen < 18446744073709551616) (hV : (encU U (p : Int) x).2 <+: V) : superB V a d l p (encU U (p : Int) x).1 = superOf a d l p x := by
  unfold superB
  rw [decU_enc h hl hg hV]
  simp
/-- What was written is there. -/
theorem superB_put {U V : List (List UInt8)} {a d l : Int} {x : SupV} (h0 : 0 ≤ x.base) (h1 : x.base ≤ 1073741824) (hl : x.life < 18446744073709551616) (hg : x.gen < 18446744073709551616) (hV : (encU U (splace x.life : Int) (superS a d l x)).2 <+: V) :
    superB V a d l (splace x.life) (encU U (splace x.life : Int) (superS a d l x)).1 = some x := by
  rw [superB_enc (superS_right h0 h1) hl hg hV, superOf_S]

theorem SupOk.of {D D' : DS} {a d l : Int} (h : SupOk D a d l) (hc : Calm D') (hn : D'.n = D.n) : SupOk D' a d l := ⟨hc, h.right, by rw [hn]; exact h.size⟩
theorem SupOk.new {a d l : Int} (h : gRight a d l = true) : SupOk (newD (gSize a d l).toNat) a d l := ⟨Calm.new _, h, by have := gSize_ge h; simp only [newD]; omega⟩
theorem SupOk.at {D : DS} {a d l : Int} (h : SupOk D a d l) (life : Nat) : splace life < D.n := by have := h.n; have := splace_cases life; omega
theorem bestS_none (y : Option SupV) : bestS y none = y := by cases y <;> rfl

/-- Writing where all is calm and the power stays. -/
theorem swrite_calm {D : DS} {a d l : Int} (h : SupOk D a d l) (hf : D.fuse = -1) (U : List (List UInt8)) {x : SupV} (h0 : 0 ≤ x.base) (h1 : x.base ≤ 1073741824) :
    ∃ D1, swriteD D U a d l x = (0, D1, (encU U (splace x.life : Int) (superS a d l x)).2) ∧ D1.kept = (fun q => if q = splace x.life then (encU U (splace x.life : Int) (superS a d l x)).1 else D.kept q) ∧ SupOk D1 a d l ∧ D1.fuse = -1 := by
  have hs := stamp_calm h.calm (by omega) (h.at x.life) (encU_length U (splace x.life : Int) (superS a d l x))
  unfold swriteD
  rw [h.r, if_neg (by simp), superS_right h0 h1, if_neg (by simp)]
  cases hs with
  | yes g0 hk hn' hc hf' => exact ⟨_, by rw [g0], hk, h.of hc hn', hf' hf⟩
  | no _ _ _ _ _ hf' => exact absurd hf hf'
theorem swrite_bad {D : DS} {U : List (List UInt8)} {a d l : Int} {x : SupV} (h : gRight a d l = false ∨ x.base < 0 ∨ 1073741824 < x.base) : swriteD D U a d l x = (2, D, U) := by
  unfold swriteD
  rcases h with h | h
  · have hr : srightD D a d l = 2 := by unfold srightD; rw [if_neg (by simp [h])]
    rw [hr, if_pos (by decide)]
  · by_cases hr : srightD D a d l = 0
    · rw [hr, if_neg (by simp), superS_bad h, if_pos (by decide)]
    · rw [if_pos hr]
theorem swriteD_few {D : DS} {q : Nat} (h : Few D q) (U : List (List UInt8)) (a d l : Int) (x : SupV) : Few (swriteD D U a d l x).2.1 (q + 2) := by
  unfold swriteD
  split
  · exact h.mono (by omega)
  · split
    · exact h.mono (by omega)
    · exact h.stamp _ _
theorem swriteD_room (D : DS) (U : List (List UInt8)) (a d l : Int) (x : SupV) : (swriteD D U a d l x).2.2.length ≤ U.length + 1 := by
  unfold swriteD
  split
  · simp
  · split
    · simp
    · exact sumU_length U _

theorem sclear_calm {D : DS} {a d l : Int} (h : SupOk D a d l) (hf : D.fuse = -1) :
    ∃ D1, sclearD D a d l = (0, D1) ∧ D1.kept = (fun q => if q = 2 ∨ q = 3 then blankS else D.kept q) ∧ SupOk D1 a d l ∧ D1.fuse = -1 := by
  have hn := h.n
  have hr := h.r
  have hok := h
  obtain ⟨n, kept, pend, hist, fuse, calls, down⟩ := D
  obtain ⟨⟨h1, h2⟩, h3, h4⟩ := h
  simp only at h1 h2 h4 hn hf
  subst h1 h2 hf
  have w1 : writeD ⟨n, kept, [], hist, -1, calls, false⟩ 2 blankS = (0, ⟨n, kept, [(2, blankS)], hist, -1, calls + 1, false⟩) := by
    unfold writeD
    rw [if_neg (by simp), if_neg (by simp only; omega), if_neg (by simp [blankS_len])]
    rfl
  have w2 : writeD ⟨n, kept, [(2, blankS)], hist, -1, calls + 1, false⟩ 3 blankS = (0, ⟨n, kept, [(2, blankS), (3, blankS)], hist, -1, calls + 1 + 1, false⟩) := by
    unfold writeD
    rw [if_neg (by simp), if_neg (by simp only; omega), if_neg (by simp [blankS_len])]
    rfl
  unfold sclearD
  rw [hr, if_neg (by simp), w1, if_neg (by simp)]
  simp only
  rw [w2, if_neg (by simp)]
  refine ⟨_, rfl, ?_, hok.of ⟨rfl, rfl⟩ rfl, rfl⟩
  funext q
  show (if q = 3 then blankS else if q = 2 then blankS else kept q) = _
  by_cases e3 : q = 3
  · simp [e3]
  · by_cases e2 : q = 2
    · simp [e2]
    · simp [e2, e3]

theorem superB_kept {D : DS} {U V : List (List UInt8)} {a d l : Int} {x : SupV} (h0 : 0 ≤ x.base) (h1 : x.base ≤ 1073741824) (hl : x.life < 18446744073709551616) (hg : x.gen < 18446744073709551616) (hk : D.kept (splace x.life) = (encU U (splace x.life : Int) (superS a d l x)).1) (hV : (encU U (splace x.life : Int) (superS a d l x)).2 <+: V) :
    superB V a d l (splace x.life) (D.kept (splace x.life)) = some x := by rw [hk]; exact superB_put h0 h1 hl hg hV
/-- One place has a super, the other one of the next life or none: which is read. -/
theorem sread_two {D : DS} {a d l : Int} (h : SupOk D a d l) (U : List (List UInt8)) {x : SupV} (hx : superB U a d l (splace x.life) (D.kept (splace x.life)) = some x) {y : Option SupV} (hy : superB U a d l (5 - splace x.life) (D.kept (5 - splace x.life)) = y) :
    (y = none → sreadD D U a d l = (x, 0)) ∧ (∀ z, y = some z → x.life < z.life → sreadD D U a d l = (z, 0)) := by
  rw [sread_calm h]
  rcases splace_cases x.life with e | e
  · rw [e] at hx hy
    rw [show 5 - 2 = 3 from rfl] at hy
    rw [hx, hy]
    refine ⟨fun hn => by rw [hn]; rfl, fun z hz hlt => ?_⟩
    rw [hz]
    simp only [bestS, if_pos hlt]
  · rw [e] at hx hy
    rw [show 5 - 3 = 2 from rfl] at hy
    rw [hx, hy]
    refine ⟨fun hn => by rw [hn]; rfl, fun z hz hlt => ?_⟩
    rw [hz]
    simp only [bestS, if_neg (show ¬ z.life < x.life by omega)]
theorem splace_next (life : Nat) : splace (life + 1) = 5 - splace life := by unfold splace; omega

/-- The power goes while the next super is written. -/
theorem scrash {D1 : DS} {q : Nat} {a d l : Int} (h : SupOk D1 a d l) (hF : Few D1 q) (U : List (List UInt8)) {x : SupV} (h0 : 0 ≤ x.base) (h1 : x.base ≤ 1073741824) (hl : x.life + 1 < 18446744073709551616) (hg : x.gen < 18446744073709551616)
    {base : Int} {gen : Nat} (b0 : 0 ≤ base) (b1 : base ≤ 1073741824) (hgn : gen < 18446744073709551616)
    (hk1 : D1.kept (splace x.life) = (encU U (splace x.life : Int) (superS a d l x)).1) (hk2 : D1.kept (5 - splace x.life) = blankS) (fuse : Int) (hfu : fuse ≤ 9223372036854775807) (ks : List Int) (torn at_ : Int) :
    ∃ (f : Int) (D3 : DS) (V : List (List UInt8)) (y : SupV), swriteD (armD D1 fuse) (encU U (splace x.life : Int) (superS a d l x)).2 a d l ⟨x.life + 1, base, gen⟩ = (f, D3, V) ∧ V.length ≤ U.length + 2 ∧
      sreadD (restD D3 ks torn at_) V a d l = (y, 0) ∧ (y = ⟨x.life + 1, base, gen⟩ ∨ (f ≠ 0 ∧ y = x)) := by
  obtain ⟨D2, hD2⟩ : ∃ D2, D2 = armD D1 fuse := ⟨_, rfl⟩
  have hF2 : Few D2 q := hD2 ▸ hF.arm fuse hfu
  have hc2 : SupOk D2 a d l := hD2 ▸ h.of ⟨h.calm.up, h.calm.idle⟩ rfl
  have hk : D2.kept = D1.kept := by rw [hD2]; rfl
  rw [← hD2]
  clear hD2
  rw [← hk] at hk1 hk2
  obtain ⟨z, hz⟩ : ∃ z : SupV, z = ⟨x.life + 1, base, gen⟩ := ⟨_, rfl⟩
  have hzl : z.life = x.life + 1 := by rw [hz]
  have hz0 : 0 ≤ z.base := by rw [hz]; exact b0
  have hz1 : z.base ≤ 1073741824 := by rw [hz]; exact b1
  have hzg : z.gen < 18446744073709551616 := by rw [hz]; exact hgn
  rw [← hz]
  clear hz
  have hpl : splace z.life = 5 - splace x.life := by rw [hzl]; exact splace_next _
  have hpc := splace_cases x.life
  obtain ⟨U1, hU1⟩ : ∃ U1, U1 = (encU U (splace x.life : Int) (superS a d l x)).2 := ⟨_, rfl⟩
  have hput : swriteD D2 U1 a d l z = ((stampD D2 (splace z.life : Int) (encU U1 (splace z.life : Int) (superS a d l z)).1).1, (stampD D2 (splace z.life : Int) (encU U1 (splace z.life : Int) (superS a d l z)).1).2, (encU U1 (splace z.life : Int) (superS a d l z)).2) := by
    unfold swriteD
    rw [hc2.r, if_neg (by simp), superS_right hz0 hz1, if_neg (by simp)]
  have hpre : (encU U (splace x.life : Int) (superS a d l x)).2 <+: (encU U1 (splace z.life : Int) (superS a d l z)).2 := by rw [hU1]; exact sumU_pre _ _
  have hst := stamp_calm hc2.calm hF2.lo (hc2.at z.life) (encU_length U1 (splace z.life : Int) (superS a d l z))
  have hlen : (encU U1 (splace z.life : Int) (superS a d l z)).2.length ≤ U.length + 2 := by
    have h1 := sumU_length U (textS (splace x.life : Int) (superS a d l x))
    have h2 := sumU_length U1 (textS (splace z.life : Int) (superS a d l z))
    have h3 : U1.length ≤ U.length + 1 := by rw [hU1]; exact h1
    exact Nat.le_trans h2 (by omega)
  have hsx := superB_put (U := U) (a := a) (d := d) (l := l) h0 h1 (by omega) hg hpre
  have hsz := superB_put (U := U1) (a := a) (d := d) (l := l) hz0 hz1 (by omega) hzg List.prefix_rfl
  have hright := superS_right (a := a) (d := d) (l := l) hz0 hz1
  rw [← hU1]
  rw [hput]
  cases hst with
  | yes g0 hk' hn' hc' hf' =>
    have ht := sread_two (D := restD (stampD D2 (splace z.life : Int) (encU U1 (splace z.life : Int) (superS a d l z)).1).2 ks torn at_) (hc2.of (restD_calm _ _ _ _) ((restD_n _ _ _ _).trans hn')) (encU U1 (splace z.life : Int) (superS a d l z)).2 (x := x) (y := some z)
      (by rw [(rest_idle hc'.idle ks torn at_).1, hk']; simp only; rw [if_neg (by omega), hk1]; exact hsx)
      (by rw [(rest_idle hc'.idle ks torn at_).1, hk', ← hpl]; simp only [if_true]; exact hsz)
    exact ⟨_, _, _, z, rfl, hlen, ht.2 z rfl (by omega), .inl rfl⟩
  | no g0 hk' hn' hp hd hf' =>
    obtain ⟨r1, r2, r3, r4, r5⟩ := rest_one hp ks torn at_
    have hm0 := Int.emod_nonneg at_ (by decide : (513 : Int) ≠ 0)
    have hm1 := Int.emod_lt_of_pos at_ (by decide : (0 : Int) < 513)
    have hy : superB (encU U1 (splace z.life : Int) (superS a d l z)).2 a d l (splace z.life) ((restD (stampD D2 (splace z.life : Int) (encU U1 (splace z.life : Int) (superS a d l z)).1).2 ks torn at_).kept (splace z.life)) = none ∨
        superB (encU U1 (splace z.life : Int) (superS a d l z)).2 a d l (splace z.life) ((restD (stampD D2 (splace z.life : Int) (encU U1 (splace z.life : Int) (superS a d l z)).1).2 ks torn at_).kept (splace z.life)) = some z := by
      have hbl : D2.kept (splace z.life) = blankS := by rw [hpl]; exact hk2
      rw [hk', hbl] at r2
      rcases r2 with e | e | e
      · left; rw [e]; exact superB_blank _ _ _ _ _
      · right; rw [e]; exact hsz
      · rw [e]
        unfold superB
        split
        · rename_i hc
          obtain ⟨yy, hyy⟩ : ∃ yy, decU (encU U1 (splace z.life : Int) (superS a d l z)).2 (splace z.life : Int) ((encU U1 (splace z.life : Int) (superS a d l z)).1.take (at_ % 513).toNat ++ blankS.drop (at_ % 513).toNat) = (0, yy) := ⟨_, Prod.ext hc rfl⟩
          have := torn_blank hright (by simp only [superS]; omega) (by simpa [superS] using hzg) (by omega) hyy
          rw [hyy, this]
          exact .inr (superOf_S a d l z)
        · exact .inl rfl
    have hsup := hc2.of r4 (r3.trans hn')
    have hxk : superB (encU U1 (splace z.life : Int) (superS a d l z)).2 a d l (splace x.life) ((restD (stampD D2 (splace z.life : Int) (encU U1 (splace z.life : Int) (superS a d l z)).1).2 ks torn at_).kept (splace x.life)) = some x := by
      rw [r1 _ (by omega), hk', hk1]; exact hsx
    rcases hy with hy | hy
    · exact ⟨_, _, _, x, rfl, hlen, (sread_two hsup _ hxk (by rw [← hpl]; exact hy)).1 rfl, .inr ⟨by rw [g0]; decide, rfl⟩⟩
    · exact ⟨_, _, _, z, rfl, hlen, (sread_two hsup _ hxk (by rw [← hpl]; exact hy)).2 z rfl (by omega), .inl rfl⟩

end Go.Proofs.Ytdjndeleafhglaa
namespace Go.Proofs.Ytdjndeleafhglaa
open Go.RowKit

def sayWhere (a d l p : Int) : Value := .tuple #[.string (gWord (gWhere a d l p).1), .int .i64 (gWhere a d l p).2]

set_option maxHeartbeats 1000000 in
theorem RWhere_any (a d l p : Int) (w : World) (_hp : -9223372036854775808 ≤ p) :
    Calls Try.prog 43 #[.agg #[.int .i64 a, .int .i64 d, .int .i64 l], .int .i64 p] w fun e w' => e = .returned (sayWhere a d l p) ∧ Below w.heap.size w w' := by
  have b1 := gSize_bd a d l
  have hcw := @BW.cell
  unfold sayWhere
  by_cases h0 : p < 0 ∨ gSize a d l ≤ p
  · rw [gWhere_no h0]
    by_cases h1 : p < 0
    all_goals
      go_enter Try.func43, Try.ntmps43
      go_wp2_with (go_at_call 35; refine (RSize_any _ _ _ _).mono ?_; rintro e w1 ⟨rfl, hb⟩; obtain ⟨hc, hf⟩ := bcell hb)
      go_ret2
      exact ⟨ret_si rfl rfl, by ((repeat (first | (with_reducible exact Bnil _) | (with_reducible assumption) | (with_reducible refine Bset ?_ ?_ _) | (with_reducible refine Bnew ?_ _) | (with_reducible refine Bdrew ?_) | (with_reducible refine Bthen ?_ (by assumption)))); all_goals (simp; try omega))⟩
  · have hr : gRight a d l = true := by
      cases h : gRight a d l with
      | true => rfl
      | false => have := gSize_no h; omega
    obtain ⟨r2, r4, r7, r3, r5, r6⟩ := gRight_iff.1 hr
    have h1 : ¬ p < 0 := by omega
    have h2 : ¬ gSize a d l ≤ p := by omega
    by_cases k2 : p < 2
    · rw [gWhere_root h0 k2]
      go_enter Try.func43, Try.ntmps43
      go_wp2_with (go_at_call 35; refine (RSize_any _ _ _ _).mono ?_; rintro e w1 ⟨rfl, hb⟩; obtain ⟨hc, hf⟩ := bcell hb)
      go_ret2
      exact ⟨ret_si rfl rfl, by ((repeat (first | (with_reducible exact Bnil _) | (with_reducible assumption) | (with_reducible refine Bset ?_ ?_ _) | (with_reducible refine Bnew ?_ _) | (with_reducible refine Bdrew ?_) | (with_reducible refine Bthen ?_ (by assumption)))); all_goals (simp; try omega))⟩
    · by_cases k4 : p < 4
      · rw [gWhere_super h0 k2 k4]
        go_enter Try.func43, Try.ntmps43
        go_wp2_with (go_at_call 35; refine (RSize_any _ _ _ _).mono ?_; rintro e w1 ⟨rfl, hb⟩; obtain ⟨hc, hf⟩ := bcell hb)
        go_ret2
        exact ⟨ret_si rfl rfl, by ((repeat (first | (with_reducible exact Bnil _) | (with_reducible assumption) | (with_reducible refine Bset ?_ ?_ _) | (with_reducible refine Bnew ?_ _) | (with_reducible refine Bdrew ?_) | (with_reducible refine Bthen ?_ (by assumption)))); all_goals (simp; try omega))⟩
      · by_cases kl : p < 4 + l
        · rw [gWhere_log h0 k2 k4 kl]
          go_enter Try.func43, Try.ntmps43
          go_wp2_with (go_at_call 35; refine (RSize_any _ _ _ _).mono ?_; rintro e w1 ⟨rfl, hb⟩; obtain ⟨hc, hf⟩ := bcell hb)
          go_ret2
          exact ⟨ret_si rfl rfl, by ((repeat (first | (with_reducible exact Bnil _) | (with_reducible assumption) | (with_reducible refine Bset ?_ ?_ _) | (with_reducible refine Bnew ?_ _) | (with_reducible refine Bdrew ?_) | (with_reducible refine Bthen ?_ (by assumption)))); all_goals (simp; try omega))⟩
        · rw [gWhere_area h0 k2 k4 kl]
          go_enter Try.func43, Try.ntmps43
          go_wp2_with (go_at_call 35; refine (RSize_any _ _ _ _).mono ?_; rintro e w1 ⟨rfl, hb⟩; obtain ⟨hc, hf⟩ := bcell hb)
          have hz : w.heap.size < w1.heap.size := by have := hb.size; simp at this; omega
          have e1 : IntKind.i64.wrap (p - 4) = p - 4 := IntWalk.i64_in _ (by omega)
          have e2 : IntKind.i64.wrap (p - 4 - l) = p - 4 - l := IntWalk.i64_in _ (by omega)
          refine wp_region_below (by kernel_rfl) (by kernel_rfl) ?_
          repeat (quiet_step (fail))
          refine wpQuiet_nil ?_
          rintro _ ⟨x, rfl⟩
          clear e1 e2
          go_wp2
          go_ret2
          exact ⟨ret_si rfl rfl, x.then (by ((repeat (first | (with_reducible exact Bnil _) | (with_reducible assumption) | (with_reducible refine Bset ?_ ?_ _) | (with_reducible refine Bnew ?_ _) | (with_reducible refine Bdrew ?_) | (with_reducible refine Bthen ?_ (by assumption)))); all_goals (simp; try omega)))⟩

set_option maxHeartbeats 1000000 in
theorem Where_any (a d l p : Int) (w : World) (_hp : -9223372036854775808 ≤ p) :
    Calls Try.prog 42 #[.agg #[.int .i64 a, .int .i64 d, .int .i64 l], .int .i64 p] w fun e w' => e = .returned (sayWhere a d l p) ∧ Below w.heap.size w w' := by
  have b1 := gSize_bd a d l
  unfold sayWhere
  by_cases h0 : p < 0 ∨ gSize a d l ≤ p
  · rw [gWhere_no h0]
    by_cases h1 : p < 0
    all_goals
      go_enter Try.func42, Try.ntmps42
      go_wp2
      go_step3
      go_wp2_with (go_at_call 34; refine (Size_any _ _ _ _).mono ?_; rintro e w1 ⟨rfl, hb⟩; obtain ⟨hc, hf⟩ := bcell hb)
      try rw [Exit.noGoto_ret]
      go_ret2
      exact ⟨ret_si rfl rfl, by ((repeat (first | (with_reducible exact Bnil _) | (with_reducible assumption) | (with_reducible refine Bset ?_ ?_ _) | (with_reducible refine Bnew ?_ _) | (with_reducible refine Bdrew ?_) | (with_reducible refine Bthen ?_ (by assumption)))); all_goals (simp; try omega))⟩
  · have hr : gRight a d l = true := by
      cases h : gRight a d l with
      | true => rfl
      | false => have := gSize_no h; omega
    have b2 := gPages_bd a d l
    have hz := gSize_yes hr
    obtain ⟨r2, r4, r7, r3, r5, r6⟩ := gRight_iff.1 hr
    have h1 : ¬ p < 0 := by omega
    have h2 : ¬ gSize a d l ≤ p := by omega
    have h3 : p < 4 + l + 2 * gPages a d l := by omega
    clear hz
    by_cases k2 : p < 2
    · rw [gWhere_root h0 k2]
      go_enter Try.func42, Try.ntmps42
      go_wp2
      go_step3
      go_wp2_with (go_at_call 34; refine (Size_any _ _ _ _).mono ?_; rintro e w1 ⟨rfl, hb⟩; obtain ⟨hc, hf⟩ := bcell hb)
      go_step3
      go_wp2_with (go_at_call 130; refine (parts_any _ _ _ _).mono ?_; rintro e w2 ⟨rfl, hb2⟩)
      have hs2 := hb2.size
      have hs1 := hb.size
      have i0 := part0 l (2 * gPages a d l)
      have i1 := part1 l (2 * gPages a d l)
      have i2 := part2 l (2 * gPages a d l)
      have i3 := part3 l (2 * gPages a d l)
      refine wp_loop_rounds 5 ?_
      iterate 1 (rw [rounds_succ]; go_wp2_with fail)
      try rw [Exit.noGoto_ret]
      go_ret2
      exact ⟨ret_si rfl (by omega), by ((repeat (first | (with_reducible exact Bnil _) | (with_reducible assumption) | (with_reducible refine Bset ?_ ?_ _) | (with_reducible refine Bnew ?_ _) | (with_reducible refine Bdrew ?_) | (with_reducible refine Bthen ?_ (by assumption)))); all_goals (simp; try omega))⟩
    · by_cases k4 : p < 4
      · rw [gWhere_super h0 k2 k4]
        go_enter Try.func42, Try.ntmps42
        go_wp2
        go_step3
        go_wp2_with (go_at_call 34; refine (Size_any _ _ _ _).mono ?_; rintro e w1 ⟨rfl, hb⟩; obtain ⟨hc, hf⟩ := bcell hb)
        go_step3
        go_wp2_with (go_at_call 130; refine (parts_any _ _ _ _).mono ?_; rintro e w2 ⟨rfl, hb2⟩)
        have hs2 := hb2.size
        have hs1 := hb.size
        have i0 := part0 l (2 * gPages a d l)
        have i1 := part1 l (2 * gPages a d l)
        have i2 := part2 l (2 * gPages a d l)
        have i3 := part3 l (2 * gPages a d l)
        refine wp_loop_rounds 5 ?_
        iterate 2 (rw [rounds_succ]; go_wp2_with fail)
        try rw [Exit.noGoto_ret]
        go_ret2
        exact ⟨ret_si rfl (by omega), by ((repeat (first | (with_reducible exact Bnil _) | (with_reducible assumption) | (with_reducible refine Bset ?_ ?_ _) | (with_reducible refine Bnew ?_ _) | (with_reducible refine Bdrew ?_) | (with_reducible refine Bthen ?_ (by assumption)))); all_goals (simp; try omega))⟩
      · by_cases kl : p < 4 + l
        · rw [gWhere_log h0 k2 k4 kl]
          go_enter Try.func42, Try.ntmps42
          go_wp2
          go_step3
          go_wp2_with (go_at_call 34; refine (Size_any _ _ _ _).mono ?_; rintro e w1 ⟨rfl, hb⟩; obtain ⟨hc, hf⟩ := bcell hb)
          go_step3
          go_wp2_with (go_at_call 130; refine (parts_any _ _ _ _).mono ?_; rintro e w2 ⟨rfl, hb2⟩)
          have hs2 := hb2.size
          have hs1 := hb.size
          have i0 := part0 l (2 * gPages a d l)
          have i1 := part1 l (2 * gPages a d l)
          have i2 := part2 l (2 * gPages a d l)
          have i3 := part3 l (2 * gPages a d l)
          refine wp_loop_rounds 5 ?_
          iterate 3 (rw [rounds_succ]; go_wp2_with fail)
          try rw [Exit.noGoto_ret]
          go_ret2
          exact ⟨ret_si rfl (by omega), by ((repeat (first | (with_reducible exact Bnil _) | (with_reducible assumption) | (with_reducible refine Bset ?_ ?_ _) | (with_reducible refine Bnew ?_ _) | (with_reducible refine Bdrew ?_) | (with_reducible refine Bthen ?_ (by assumption)))); all_goals (simp; try omega))⟩
        · rw [gWhere_area h0 k2 k4 kl]
          go_enter Try.func42, Try.ntmps42
          go_wp2
          go_step3
          go_wp2_with (go_at_call 34; refine (Size_any _ _ _ _).mono ?_; rintro e w1 ⟨rfl, hb⟩; obtain ⟨hc, hf⟩ := bcell hb)
          go_step3
          go_wp2_with (go_at_call 130; refine (parts_any _ _ _ _).mono ?_; rintro e w2 ⟨rfl, hb2⟩)
          have hs2 := hb2.size
          have hs1 := hb.size
          have i0 := part0 l (2 * gPages a d l)
          have i1 := part1 l (2 * gPages a d l)
          have i2 := part2 l (2 * gPages a d l)
          have i3 := part3 l (2 * gPages a d l)
          refine wp_loop_rounds 5 ?_
          iterate 4 (rw [rounds_succ]; go_wp2_with fail)
          try rw [Exit.noGoto_ret]
          go_ret2
          exact ⟨ret_si rfl (by omega), by ((repeat (first | (with_reducible exact Bnil _) | (with_reducible assumption) | (with_reducible refine Bset ?_ ?_ _) | (with_reducible refine Bnew ?_ _) | (with_reducible refine Bdrew ?_) | (with_reducible refine Bthen ?_ (by assumption)))); all_goals (simp; try omega))⟩

end Go.Proofs.Ytdjndeleafhglaa
namespace Go.Proofs.Ytdjndeleafhglaa
open Go.RowKit

abbrev geoV (a d l : Int) : Value := .agg #[.int .i64 a, .int .i64 d, .int .i64 l]

section
variable {w : World} {x u m q : Nat} {D : DS} {U : List (List UInt8)} {S : Nat → Prop}

set_option maxRecDepth 100000 in
set_option maxHeartbeats 1000000 in
theorem SRight_c (a d l : Int) (h : Duo w x u m D U S) :
    Calls Try.prog 164 #[.pointer (some ⟨x, 0, none⟩), geoV a d l] w fun e w' => e = .returned (.int .i64 (srightD D a d l)) ∧ Below w.heap.size w w' := by
  unfold srightD
  have hrt := fun W => Right_any a d l W
  have hsz := fun W => Size_any a d l W
  have hB0 : Below w.heap.size w (w.alloc (.cells #[.int .i64 a, .int .i64 d, .int .i64 l] 23)) := Bbox _ _
  have hds := fun W (hW : Below w.heap.size w W) => (h.below hW).dsize
  have Hrt := Lib.hid hrt; clear hrt
  have Hsz := Lib.hid hsz; clear hsz
  have Hds := Lib.hid hds; clear hds h
  cases hr : gRight a d l with
  | false =>
    rw [hr] at Hrt
    rw [if_neg (by simp)]
    go_enter Try.func164, Try.ntmps164
    go_wp2_with fail
    have hn0 := heap_alloc_new w (.cells #[.int .i64 a, .int .i64 d, .int .i64 l] 23)
    generalize w.alloc (.cells #[.int .i64 a, .int .i64 d, .int .i64 l] 23) = W0 at hB0 hn0 ⊢
    have fc := fun y : InS (BelowW W0) => cells3 ((y.h.block _ (blk_lt hn0)).trans hn0)
    have s0 := fun y => (fc y).1
    have s1 := fun y => (fc y).2.1
    have s2 := fun y => (fc y).2.2
    clear fc
    refine wp_region_in (BelowW W0) [(0, true), (1, false), (2, true), (3, true), (4, true), (6, true), (5, false), (7, false), (8, true), (9, true), (10, true)] (by kernel_rfl) (by kernel_rfl) (fun _ _ _ _ _ h => h) (inB_drew _) (fun hne => ?_)
    simp only [permOps, List.map_cons, List.map_nil, List.getD_cons_zero, List.getD_cons_succ]
    (repeat ((with_reducible refine wpPerm_F ?_); intro K hK; go_simp; refine hK _ _ ?_; clear hK K))
    (with_reducible refine wpPerm_E rfl ?_); intro K hK
    go_wp2_with fail
    refine (Hrt.out _).mono ?_; rintro e w1 ⟨rfl, hb1⟩
    have hV1 : Below W0.heap.size W0 w1 := Bthen (Bdrew (Bnil _)) hb1
    (refine hK _ _ ?_; clear hK K)
    refine ⟨inB_more hV1, ?_⟩
    (repeat ((with_reducible refine wpPerm_F ?_); intro K hK; go_simp; refine hK _ _ ?_; clear hK K))
    (with_reducible refine wpPerm_G ?_); intro K K' hK hK'; go_simp
    (refine hK' _ _ ?_; clear hK hK' K K')
    (with_reducible refine wpPerm_G ?_); intro K K' hK hK'; go_simp
    (refine hK' _ _ ?_; clear hK hK' K K')
    (repeat ((with_reducible refine wpPerm_F ?_); intro K hK; go_simp; refine hK _ _ ?_; clear hK K))
    refine wpPerm_nil ?_
    go_wp2_with fail
    go_ret
    exact ⟨rfl, Bthen hB0 hV1⟩
  | true =>
    rw [hr] at Hrt
    simp only [true_and]
    by_cases hz : (D.n : Int) = gSize a d l
    · rw [if_pos hz]
      have hz' : ((D.n : Int) != gSize a d l) = false := by simp [hz]
      rw [hz] at Hds hz'
      generalize gSize a d l = sz at Hds Hsz hz'
      go_enter Try.func164, Try.ntmps164
      go_wp2_with fail
      have hn0 := heap_alloc_new w (.cells #[.int .i64 a, .int .i64 d, .int .i64 l] 23)
      generalize w.alloc (.cells #[.int .i64 a, .int .i64 d, .int .i64 l] 23) = W0 at hB0 hn0 ⊢
      have fc := fun y : InS (BelowW W0) => cells3 ((y.h.block _ (blk_lt hn0)).trans hn0)
      have s0 := fun y => (fc y).1
      have s1 := fun y => (fc y).2.1
      have s2 := fun y => (fc y).2.2
      clear fc
      refine wp_region_in (BelowW W0) [(0, true), (1, false), (2, true), (3, true), (4, true), (6, true), (5, false), (7, false), (8, true), (9, true), (10, true)] (by kernel_rfl) (by kernel_rfl) (fun _ _ _ _ _ h => h) (inB_drew _) (fun hne => ?_)
      simp only [permOps, List.map_cons, List.map_nil, List.getD_cons_zero, List.getD_cons_succ]
      (repeat ((with_reducible refine wpPerm_F ?_); intro K hK; go_simp; refine hK _ _ ?_; clear hK K))
      (with_reducible refine wpPerm_E rfl ?_); intro K hK
      go_wp2_with fail
      refine (Hrt.out _).mono ?_; rintro e w1 ⟨rfl, hb1⟩
      have hV1 : Below W0.heap.size W0 w1 := Bthen (Bdrew (Bnil _)) hb1
      (refine hK _ _ ?_; clear hK K)
      refine ⟨inB_more hV1, ?_⟩
      (repeat ((with_reducible refine wpPerm_F ?_); intro K hK; go_simp; refine hK _ _ ?_; clear hK K))
      (with_reducible refine wpPerm_G ?_); intro K K' hK hK'; go_simp
      refine (Hds.out w1 (Bthen hB0 hV1)).mono ?_; rintro e w2 ⟨rfl, rfl⟩
      (refine hK _ _ ?_; clear hK hK' K K')
      refine ⟨inB_more hV1, ?_⟩
      (with_reducible refine wpPerm_G ?_); intro K K' hK hK'; go_simp
      refine (Hsz.out w1).mono ?_; rintro e w2 ⟨rfl, hb2⟩
      have hV2 := Bthen hV1 hb2
      (refine hK _ _ ?_; clear hK hK' K K')
      refine ⟨inB_more hV2, ?_⟩
      (repeat ((with_reducible refine wpPerm_F ?_); intro K hK; go_simp; refine hK _ _ ?_; clear hK K))
      refine wpPerm_nil ?_
      go_wp2_with fail
      go_ret
      exact ⟨rfl, Bthen hB0 hV2⟩
    · rw [if_neg hz]
      have hz' : ((D.n : Int) != gSize a d l) = true := by simp [hz]
      generalize gSize a d l = sz at Hds Hsz hz' hz
      go_enter Try.func164, Try.ntmps164
      go_wp2_with fail
      have hn0 := heap_alloc_new w (.cells #[.int .i64 a, .int .i64 d, .int .i64 l] 23)
      generalize w.alloc (.cells #[.int .i64 a, .int .i64 d, .int .i64 l] 23) = W0 at hB0 hn0 ⊢
      have fc := fun y : InS (BelowW W0) => cells3 ((y.h.block _ (blk_lt hn0)).trans hn0)
      have s0 := fun y => (fc y).1
      have s1 := fun y => (fc y).2.1
      have s2 := fun y => (fc y).2.2
      clear fc
      refine wp_region_in (BelowW W0) [(0, true), (1, false), (2, true), (3, true), (4, true), (6, true), (5, false), (7, false), (8, true), (9, true), (10, true)] (by kernel_rfl) (by kernel_rfl) (fun _ _ _ _ _ h => h) (inB_drew _) (fun hne => ?_)
      simp only [permOps, List.map_cons, List.map_nil, List.getD_cons_zero, List.getD_cons_succ]
      (repeat ((with_reducible refine wpPerm_F ?_); intro K hK; go_simp; refine hK _ _ ?_; clear hK K))
      (with_reducible refine wpPerm_E rfl ?_); intro K hK
      go_wp2_with fail
      refine (Hrt.out _).mono ?_; rintro e w1 ⟨rfl, hb1⟩
      have hV1 : Below W0.heap.size W0 w1 := Bthen (Bdrew (Bnil _)) hb1
      (refine hK _ _ ?_; clear hK K)
      refine ⟨inB_more hV1, ?_⟩
      (repeat ((with_reducible refine wpPerm_F ?_); intro K hK; go_simp; refine hK _ _ ?_; clear hK K))
      (with_reducible refine wpPerm_G ?_); intro K K' hK hK'; go_simp
      refine (Hds.out w1 (Bthen hB0 hV1)).mono ?_; rintro e w2 ⟨rfl, rfl⟩
      (refine hK _ _ ?_; clear hK hK' K K')
      refine ⟨inB_more hV1, ?_⟩
      (with_reducible refine wpPerm_G ?_); intro K K' hK hK'; go_simp
      refine (Hsz.out w1).mono ?_; rintro e w2 ⟨rfl, hb2⟩
      have hV2 := Bthen hV1 hb2
      (refine hK _ _ ?_; clear hK hK' K K')
      refine ⟨inB_more hV2, ?_⟩
      (repeat ((with_reducible refine wpPerm_F ?_); intro K hK; go_simp; refine hK _ _ ?_; clear hK K))
      refine wpPerm_nil ?_
      go_wp2_with fail
      go_ret
      exact ⟨rfl, Bthen hB0 hV2⟩
theorem SRight_nil (a d l : Int) (w : World) : Calls Try.prog 164 #[.pointer none, geoV a d l] w fun e w' => e = .returned (.int .i64 1) ∧ Below w.heap.size w w' := by
  go_enter Try.func164, Try.ntmps164
  go_wp2_with fail
  go_ret
  exact ⟨rfl, Bbox _ _⟩

set_option maxHeartbeats 1000000 in
theorem SBoth_c (a d l : Int) (h : Duo w x u m D U S) :
    Calls Try.prog 161 #[.pointer (some ⟨x, 0, none⟩), .pointer (some ⟨u, 0, none⟩), geoV a d l] w fun e w' => e = .returned (.int .i64 (srightD D a d l)) ∧ Below w.heap.size w w' := by
  have hr := fun W (hW : Below w.heap.size w W) => SRight_c a d l (h.below hW)
  have Hr := Lib.hid hr; clear hr h
  go_enter Try.func161, Try.ntmps161
  go_wp2_with fail
  refine (Hr.out _ (Bbox _ _)).mono ?_; rintro e w1 ⟨rfl, hb1⟩
  go_wp2_with fail
  go_ret
  exact ⟨rfl, Bthen (Bbox _ _) hb1⟩
theorem SBoth_bare (a d l : Int) (v : Option Addr) (w : World) : Calls Try.prog 161 #[.pointer v, .pointer none, geoV a d l] w fun e w' => e = .returned (.int .i64 1) ∧ Below w.heap.size w w' := by
  go_enter Try.func161, Try.ntmps161
  go_wp2_with fail
  go_ret
  exact ⟨rfl, Bbox _ _⟩
theorem SBoth_nil (a d l : Int) (u : Nat) (w : World) : Calls Try.prog 161 #[.pointer none, .pointer (some ⟨u, 0, none⟩), geoV a d l] w fun e w' => e = .returned (.int .i64 1) ∧ Below w.heap.size w w' := by
  go_enter Try.func161, Try.ntmps161
  go_wp2_with fail
  refine (SRight_nil a d l _).mono ?_; rintro e w1 ⟨rfl, hb1⟩
  go_wp2_with fail
  go_ret
  exact ⟨rfl, Bthen (Bbox _ _) hb1⟩

/-- The two places. -/
theorem SPlaces_any (w : World) : Calls Try.prog 163 #[] w fun e w' => e = .returned (.agg #[.int .i64 2, .int .i64 3]) ∧ Below w.heap.size w w' := by
  go_enter Try.func163, Try.ntmps163
  go_wp2_with fail
  refine (Super_any 0 _ (by decide) (by decide)).mono ?_; rintro e w1 ⟨rfl, rfl⟩
  go_wp2_with fail
  refine (Super_any 1 _ (by decide) (by decide)).mono ?_; rintro e w1 ⟨rfl, rfl⟩
  go_wp2_with fail
  refine bodyPost_ret (v := .agg #[.int .i64 2, .int .i64 3]) ?_ rfl ⟨rfl, Bbox _ _⟩
  simp [results, Try.results163, go_sem]
theorem splaces0 (w : World) : (Instr.index 211 (.agg #[.int .i64 2, .int .i64 3]) (.int .i64 0)).run Try.prog w = .ok (.int .i64 2) w := by kernel_rfl
theorem splaces1 (w : World) : (Instr.index 211 (.agg #[.int .i64 2, .int .i64 3]) (.int .i64 1)).run Try.prog w = .ok (.int .i64 3) w := by kernel_rfl

theorem mark_bytes {a d l : Int} (h : gRight a d l = true) : bytesV (gMark a d l) = [.int .u8 a, .int .u8 d, .int .u8 l] := by
  obtain ⟨h1, h2, h3, h4, h5, h6⟩ := gRight_iff.1 h
  unfold gMark
  rw [if_pos h]
  simp only [bytesV, List.map_cons, List.map_nil]
  have e : ∀ z : Int, 0 ≤ z → z ≤ 64 → ((UInt8.ofNat z.toNat).toNat : Int) = z := fun z z0 z1 => by
    rw [UInt8.toNat_ofNat_of_lt' (show z.toNat < 256 by omega)]; omega
  rw [e a (by omega) (by omega), e d (by omega) (by omega), e l (by omega) (by omega)]

set_option maxRecDepth 100000 in
theorem SMark_any (a d l : Int) (w : World) : Calls Try.prog 93 #[geoV a d l] w fun e w' => ∃ A c, e = .returned (.slice A (gMark a d l).length c) ∧ w'.ownsRow w.heap.size 5 1 (.slice A (gMark a d l).length c) (gMark a d l).length (bytesV (gMark a d l)) ∧ Below w.heap.size w w' := by
  have hrt := fun W => Right_any a d l W
  have Hrt := Lib.hid hrt; clear hrt
  cases hr : gRight a d l with
  | false =>
    rw [hr] at Hrt
    have hm : gMark a d l = [] := by unfold gMark; rw [if_neg (by simp [hr])]
    rw [hm]
    go_enter Try.func93, Try.ntmps93
    go_wp2_with fail
    refine (Hrt.out _).mono ?_; rintro e w1 ⟨rfl, hb1⟩
    go_wp2_with fail
    go_ret
    exact ⟨none, 0, rfl, World.ownsRow_nil _ _ _ _, Bthen (Bbox _ _) hb1⟩
  | true =>
    rw [hr] at Hrt
    have hm := mark_bytes hr
    have hl : (gMark a d l).length = 3 := by unfold gMark; rw [if_pos hr]; rfl
    obtain ⟨h1, h2, h3, h4, h5, h6⟩ := gRight_iff.1 hr
    rw [hl]
    have Hm := Lib.hid hm; clear hm
    have Hl := Lib.hid hl; clear hl
    go_enter Try.func93, Try.ntmps93
    go_wp2_with fail
    have hB0 : Below w.heap.size w (w.alloc (.cells #[.int .i64 a, .int .i64 d, .int .i64 l] 23)) := Bbox _ _
    have hn0 := heap_alloc_new w (.cells #[.int .i64 a, .int .i64 d, .int .i64 l] 23)
    generalize w.alloc (.cells #[.int .i64 a, .int .i64 d, .int .i64 l] 23) = W0 at hB0 hn0 ⊢
    refine (Hrt.out _).mono ?_; rintro e w1 ⟨rfl, hb1⟩
    obtain ⟨c0, c1, c2⟩ := cells3 ((hb1.block _ (blk_lt hn0)).trans hn0)
    have hz := (Bthen hB0 hb1).size
    go_wp2_with fail
    go_ret
    refine ⟨_, _, rfl, own_of_block 3 Hl.out ?_ hz (by decide), Bnew (Bthen hB0 hb1) _⟩
    rw [Hm.out]
    exact heap_alloc_new _ _

end
end Go.Proofs.Ytdjndeleafhglaa
namespace Go.Proofs.Ytdjndeleafhglaa
open Go.RowKit

abbrev supV (y : SupV) : Value := .agg #[.int .u64 (y.life : Int), .int .i64 y.base, .int .u64 (y.gen : Int)]
theorem sright_cases (D : DS) (a d l : Int) : srightD D a d l = 0 ∨ srightD D a d l = 2 := by unfold srightD; split <;> simp
/-- Two boxes, of three cells each. -/
theorem boxes33 (w : World) (a b c d e f : Value) (t s : TypeId) : Below w.heap.size w ((w.alloc (.cells #[a, b, c] t)).alloc (.cells #[d, e, f] s)) ∧ ((w.alloc (.cells #[a, b, c] t)).alloc (.cells #[d, e, f] s)).heap[w.heap.size]? = some (.cells #[a, b, c] t (0, 0)) ∧
    ((w.alloc (.cells #[a, b, c] t)).alloc (.cells #[d, e, f] s)).heap[w.heap.size + 1]? = some (.cells #[d, e, f] s (0, 0)) := by
  refine ⟨Bnew (Bbox _ _) _, ?_, ?_⟩
  · rw [Below.heap_alloc _ _ _ (by simp)]; exact heap_alloc_new w _
  · have := heap_alloc_new (w.alloc (.cells #[a, b, c] t)) (.cells #[d, e, f] s)
    simpa using this

section
variable {w : World} {x u m q : Nat} {D : DS} {U : List (List UInt8)} {S : Nat → Prop}

set_option maxRecDepth 100000 in
set_option maxHeartbeats 2000000 in
theorem SWrite_c (a d l : Int) (y : SupV) (h : Duo w x u m D U S) (hF : Few D q) (hq : q ≤ 300000) (hU : U.length ≤ 300000) (hl : y.life < 18446744073709551616) :
    Calls Try.prog 92 #[.pointer (some ⟨x, 0, none⟩), .pointer (some ⟨u, 0, none⟩), geoV a d l, supV y] w fun e w' => e = .returned (.int .i64 (swriteD D U a d l y).1) ∧ Turn2 S x u m (swriteD D U a d l y).2.1 (swriteD D U a d l y).2.2 w w' := by
  have hbo := fun W (hW : Below w.heap.size w W) => SBoth_c a d l (h.below hW)
  have hlt := h.lt
  unfold swriteD
  rcases sright_cases D a d l with hs | hs
  case inr =>
    rw [hs] at hbo ⊢
    rw [if_pos (by decide)]
    have Hbo := Lib.hid hbo; clear hbo
    have Hd := Lib.hid h; clear h
    unfold supV
    go_enter Try.func92, Try.ntmps92
    go_wp2_with fail
    refine (Hbo.out _ (Bnew (Bbox _ _) _)).mono ?_; rintro e w1 ⟨rfl, hb1⟩
    go_wp2_with fail
    go_ret
    exact ⟨rfl, Turn2.of_below Hd.out (Bthen (Bnew (Bbox _ _) _) hb1)⟩
  rw [hs] at hbo ⊢
  rw [if_neg (by simp)]
  have hsp : (2 : Int) + (y.life : Int) % 2 = (splace y.life : Int) := by unfold splace; omega
  have hsu := fun W => Super_any (y.life : Int) W (by omega) (by omega)
  rw [hsp] at hsu
  have hmk := fun W => SMark_any a d l W
  have hbxs := boxes33 w (.int .i64 a) (.int .i64 d) (.int .i64 l) (.int .u64 (y.life : Int)) (.int .i64 y.base) (.int .u64 (y.gen : Int)) 23 109
  have hencN := fun (W : World) A c (hr : rightS (splace y.life : Int) (superS a d l y) ≠ 0) => Duo.encode_no (w := W) (u := u) (splace y.life : Int) (superS a d l y) A c hr
  have hencY := fun (W : World) A c (h2 : Duo W x u m D U S) (hr : rightS (splace y.life : Int) (superS a d l y) = 0) hb => h2.encode (splace y.life : Int) (superS a d l y) A c hr hb (by omega)
  unfold secV at hencN hencY
  have Hbo := Lib.hid hbo; clear hbo
  have Hsu := Lib.hid hsu; clear hsu
  have Hmk := Lib.hid hmk; clear hmk
  have Hbx := Lib.hid hbxs; clear hbxs
  have Hd := Lib.hid h; clear h
  have Hlt := Lib.hid hlt; clear hlt
  unfold supV
  clear hsp
  by_cases hr : rightS (splace y.life : Int) (superS a d l y) = 0
  case neg =>
    rw [if_pos (Ne.intro hr)]
    simp only [superS] at hencN hencY hr ⊢
    generalize splace y.life = p at *
    have hrb : (rightS (p : Int) ⟨2, y.life, y.base, y.gen, gMark a d l⟩ != 0) = true := by simpa using hr
    have HeN := Lib.hid (fun W A c => hencN W A c hr)
    clear hencN hencY
    generalize rightS (p : Int) ⟨2, y.life, y.base, y.gen, gMark a d l⟩ = f at *
    go_enter Try.func92, Try.ntmps92
    go_wp2_with fail
    obtain ⟨hB0, hX0, hY0⟩ := Hbx.out
    generalize (w.alloc (.cells #[.int .i64 a, .int .i64 d, .int .i64 l] 23)).alloc (.cells #[.int .u64 (y.life : Int), .int .i64 y.base, .int .u64 (y.gen : Int)] 109) = W0 at hB0 hX0 hY0 ⊢
    refine (Hbo.out _ hB0).mono ?_; rintro e w1 ⟨rfl, hb1⟩
    have hX1 := (hb1.block _ (blk_lt hX0)).trans hX0
    have hY1 := (hb1.block _ (blk_lt hY0)).trans hY0
    have hB1 := Bthen hB0 hb1
    obtain ⟨y0, y1, y2⟩ := cells3 hY1
    go_wp2_with fail
    refine (Hsu.out _).mono ?_; rintro e w2 ⟨rfl, rfl⟩
    clear y0 y1 y2
    go_wp2_with fail
    have fx := fun z : InS (BelowW w1) => cells3 ((z.h.block _ (blk_lt hX1)).trans hX1)
    have fy := fun z : InS (BelowW w1) => cells3 ((z.h.block _ (blk_lt hY1)).trans hY1)
    have s0 := fun z => (fx z).1
    have s1 := fun z => (fx z).2.1
    have s2 := fun z => (fx z).2.2
    have r0 := fun z => (fy z).1
    have r1 := fun z => (fy z).2.1
    have r2 := fun z => (fy z).2.2
    clear fx fy
    refine wp_region_in (BelowW w1) [(0, true), (1, true), (2, true), (3, true), (4, true), (5, true), (6, true), (7, true), (8, true), (9, false), (10, true), (11, false), (12, true), (13, true), (14, true), (15, true), (16, true)] (by kernel_rfl) (by kernel_rfl) (fun _ _ _ _ _ h => h) (inB_drew _) (fun hne => ?_)
    simp only [permOps, List.map_cons, List.map_nil, List.getD_cons_zero, List.getD_cons_succ]
    (repeat ((with_reducible refine wpPerm_F ?_); intro K hK; go_simp; refine hK _ _ ?_; clear hK K))
    (with_reducible refine wpPerm_E rfl ?_); intro K hK
    go_wp2_with fail
    refine (Hmk.out _).mono ?_; rintro e w3 ⟨A3, c3, rfl, hown, hb3⟩
    have hV3 : Below w1.heap.size w1 w3 := Bthen (Bdrew (Bnil _)) hb3
    clear hown
    (refine hK _ _ ?_; clear hK K)
    refine ⟨inB_more hV3, ?_⟩
    (repeat ((with_reducible refine wpPerm_F ?_); intro K hK; go_simp; refine hK _ _ ?_; clear hK K))
    (with_reducible refine wpPerm_E rfl ?_); intro K hK
    go_wp2_with fail
    refine (HeN.out w3 A3 c3).mono ?_; rintro e w4 ⟨rfl, hb4⟩
    have hV4 := Bthen hV3 hb4
    (refine hK _ _ ?_; clear hK K)
    refine ⟨inB_more hV4, ?_⟩
    (repeat ((with_reducible refine wpPerm_F ?_); intro K hK; go_simp; refine hK _ _ ?_; clear hK K))
    refine wpPerm_nil ?_
    clear s0 s1 s2 r0 r1 r2
    go_wp2_with fail
    go_ret
    exact ⟨rfl, Turn2.of_below Hd.out (Bthen hB1 hV4)⟩
  rw [if_neg (by simp [hr])]
  simp only [superS] at hencN hencY hr ⊢
  generalize splace y.life = p at *
  have HeY := Lib.hid (fun W A c h2 => hencY W A c h2 hr)
  have hwr := fun (W : World) (S' : Nat → Prop) (V : List (List UInt8)) (b : List UInt8) (A : Option Addr) (n c : Nat) (h2 : Duo W x u m D V S') hb hA => h2.write (p : Int) A n c b hF (by omega) hb hA
  have hF2 := fun b => hF.write (p : Int) b
  clear hencN hencY hr
  generalize encU U (p : Int) ⟨2, y.life, y.base, y.gen, gMark a d l⟩ = E at *
  obtain ⟨b, V⟩ := E
  simp only at HeY ⊢
  unfold stampD
  have hwr := fun (W : World) (S' : Nat → Prop) (A : Option Addr) (n c : Nat) (h2 : Duo W x u m D V S') hb hA => hwr W S' V b A n c h2 hb hA
  have hF2 := hF2 b
  generalize writeD D (p : Int) b = R at hwr hF2 ⊢
  obtain ⟨rf, D2⟩ := R
  have hfl := fun (W : World) (S' : Nat → Prop) (h2 : Duo W x u m D2 V S') => h2.flush hF2 (by omega)
  have hfin : ∀ e w', (rf ≠ 0 → e = Ending.returned (.int .i64 rf) ∧ Turn2 S x u m D2 V w w') → (rf = 0 → e = Ending.returned (.int .i64 (flushD D2).1) ∧ Turn2 S x u m (flushD D2).2 V w w') →
      e = Ending.returned (.int .i64 (if (rf, D2).1 ≠ 0 then (rf, D2) else flushD (rf, D2).2).1) ∧ Turn2 S x u m (if (rf, D2).1 ≠ 0 then (rf, D2) else flushD (rf, D2).2).2 V w w' := fun e w' h1 h2 => by
    by_cases hz : rf = 0
    · rw [if_neg (by simp [hz])]; exact h2 hz
    · rw [if_pos (show (rf, D2).1 ≠ 0 from hz)]; exact h1 hz
  suffices hk : Calls Try.prog 92 #[.pointer (some ⟨x, 0, none⟩), .pointer (some ⟨u, 0, none⟩), geoV a d l, .agg #[.int .u64 (y.life : Int), .int .i64 y.base, .int .u64 (y.gen : Int)]] w (fun e w' => (rf ≠ 0 → e = Ending.returned (.int .i64 rf) ∧ Turn2 S x u m D2 V w w') ∧ (rf = 0 → e = Ending.returned (.int .i64 (flushD D2).1) ∧ Turn2 S x u m (flushD D2).2 V w w')) from hk.mono fun e w' hh => hfin e w' hh.1 hh.2
  clear hfin
  have Hwr := Lib.hid hwr; clear hwr
  have Hfl := Lib.hid hfl; clear hfl
  generalize flushD D2 = R2 at *
  obtain ⟨rf2, D3⟩ := R2
  go_enter Try.func92, Try.ntmps92
  go_wp2_with fail
  obtain ⟨hB0, hX0, hY0⟩ := Hbx.out
  generalize (w.alloc (.cells #[.int .i64 a, .int .i64 d, .int .i64 l] 23)).alloc (.cells #[.int .u64 (y.life : Int), .int .i64 y.base, .int .u64 (y.gen : Int)] 109) = W0 at hB0 hX0 hY0 ⊢
  refine (Hbo.out _ hB0).mono ?_; rintro e w1 ⟨rfl, hb1⟩
  have hX1 := (hb1.block _ (blk_lt hX0)).trans hX0
  have hY1 := (hb1.block _ (blk_lt hY0)).trans hY0
  have hB1 := Bthen hB0 hb1
  have hz1 := hB1.size
  obtain ⟨y0, y1, y2⟩ := cells3 hY1
  go_wp2_with fail
  refine (Hsu.out _).mono ?_; rintro e w2 ⟨rfl, rfl⟩
  clear y0 y1 y2
  go_wp2_with fail
  have hXl := blk_lt hX0
  have hXS : ¬ S w.heap.size := fun hs => by have := Hlt.out _ hs; omega
  have hYS : ¬ S (w.heap.size + 1) := fun hs => by have := Hlt.out _ hs; omega
  have fx := fun z : InS (FrameW S w1) => cells3 (z.h.heap hX1 hXS)
  have fy := fun z : InS (FrameW S w1) => cells3 (z.h.heap hY1 hYS)
  have s0 := fun z => (fx z).1
  have s1 := fun z => (fx z).2.1
  have s2 := fun z => (fx z).2.2
  have r0 := fun z => (fy z).1
  have r1 := fun z => (fy z).2.1
  have r2 := fun z => (fy z).2.2
  clear fx fy
  refine wp_region_in (FrameW S w1) [(0, true), (1, true), (2, true), (3, true), (4, true), (5, true), (6, true), (7, true), (8, true), (9, false), (10, true), (11, false), (12, true), (13, true), (14, true), (15, true), (16, true)] (by kernel_rfl) (by kernel_rfl) (fun _ _ _ _ _ h => h) (Frame.drew (Frame.refl _ _)) (fun hne => ?_)
  simp only [permOps, List.map_cons, List.map_nil, List.getD_cons_zero, List.getD_cons_succ]
  (repeat ((with_reducible refine wpPerm_F ?_); intro K hK; go_simp; refine hK _ _ ?_; clear hK K))
  (with_reducible refine wpPerm_E rfl ?_); intro K hK
  go_wp2_with fail
  refine (Hmk.out _).mono ?_; rintro e w3 ⟨A3, c3, rfl, hown, hb3⟩
  have hV3 : Below w1.heap.size w1 w3 := Bthen (Bdrew (Bnil _)) hb3
  have hby3 := BytesAt.own hown
  have Hey := Lib.hid (HeY.out w3 A3 c3 (Hd.out.below (Bthen hB1 hV3)) hby3)
  clear hown hby3
  (refine hK _ _ ?_; clear hK K)
  refine ⟨inF_more (Frame.of_below hV3), ?_⟩
  (repeat ((with_reducible refine wpPerm_F ?_); intro K hK; go_simp; refine hK _ _ ?_; clear hK K))
  (with_reducible refine wpPerm_E rfl ?_); intro K hK
  go_wp2_with fail
  refine Hey.out.mono ?_; rintro e w4 ⟨A4, c4, rfl, hown, hd4, hf4⟩
  have hF4 : Frame S w1 w4 := (Frame.of_below (S := S) hV3).trans hf4 (fun _ h => .inl h)
  have hz3 := hV3.size
  have Hw4 := Lib.hid (Hwr.out w4 S A4 512 c4 hd4 (BytesAt.own hown) (fun _ g o e hs => by
    have h1 := Hlt.out g hs
    have h2 := (hown.lt g (by rw [e]; rfl)).1
    omega))
  clear hown
  (refine hK _ _ ?_; clear hK K)
  refine ⟨inF_more hF4, ?_⟩
  (repeat ((with_reducible refine wpPerm_F ?_); intro K hK; go_simp; refine hK _ _ ?_; clear hK K))
  refine wpPerm_nil ?_
  clear s0 s1 s2 r0 r1 r2
  go_wp2_with fail
  refine Hw4.out.mono ?_; rintro e w5 ⟨rfl, ht⟩
  have hFw : Frame S w w4 := (Frame.of_below (S := S) hB1).trans hF4 (fun _ h => .inl h)
  by_cases hz : rf = 0
  · subst hz
    obtain ⟨S5, hd5, hf5, hS5⟩ := ht
    have Hf5 := Lib.hid (Hfl.out w5 S5 hd5)
    clear hd5
    go_wp2_with fail
    refine Hf5.out.mono ?_; rintro e w6 ⟨rfl, ht6⟩
    go_wp2_with fail
    go_ret
    exact ⟨rfl, Turn2.comp hFw (fun _ h => .inl h) (Turn2.comp hf5 hS5 ht6)⟩
  · go_wp2_with fail
    go_ret
    exact ⟨fun _ => ⟨rfl, Turn2.comp hFw (fun _ h => .inl h) ht⟩, fun h => absurd h hz⟩

set_option maxHeartbeats 1000000 in
theorem SWrite_nil (a d l : Int) (y : SupV) (u : Nat) (w : World) : Calls Try.prog 92 #[.pointer none, .pointer (some ⟨u, 0, none⟩), geoV a d l, supV y] w fun e w' => e = .returned (.int .i64 1) ∧ Below w.heap.size w w' := by
  unfold supV
  go_enter Try.func92, Try.ntmps92
  go_wp2_with fail
  refine (SBoth_nil a d l u _).mono ?_; rintro e w1 ⟨rfl, hb1⟩
  go_wp2_with fail
  go_ret
  exact ⟨rfl, Bthen (Bnew (Bbox _ _) _) hb1⟩
set_option maxHeartbeats 1000000 in
theorem SWrite_bare (a d l : Int) (y : SupV) (v : Option Addr) (w : World) : Calls Try.prog 92 #[.pointer v, .pointer none, geoV a d l, supV y] w fun e w' => e = .returned (.int .i64 1) ∧ Below w.heap.size w w' := by
  unfold supV
  go_enter Try.func92, Try.ntmps92
  go_wp2_with fail
  refine (SBoth_bare a d l v _).mono ?_; rintro e w1 ⟨rfl, hb1⟩
  go_wp2_with fail
  go_ret
  exact ⟨rfl, Bthen (Bnew (Bbox _ _) _) hb1⟩
set_option maxHeartbeats 1000000 in
theorem SClear_nil (a d l : Int) (w : World) : Calls Try.prog 99 #[.pointer none, geoV a d l] w fun e w' => e = .returned (.int .i64 1) ∧ Below w.heap.size w w' := by
  go_enter Try.func99, Try.ntmps99
  go_wp2_with fail
  refine (SRight_nil a d l _).mono ?_; rintro e w1 ⟨rfl, hb1⟩
  go_wp2_with fail
  go_ret
  exact ⟨rfl, Bthen (Bbox _ _) hb1⟩

set_option maxRecDepth 100000 in
set_option maxHeartbeats 2000000 in
theorem SClear_c (a d l : Int) (h : Duo w x u m D U S) (hF : Few D q) (hq : q ≤ 300000) :
    Calls Try.prog 99 #[.pointer (some ⟨x, 0, none⟩), geoV a d l] w fun e w' => e = .returned (.int .i64 (sclearD D a d l).1) ∧ Turn2 S x u m (sclearD D a d l).2 U w w' := by
  have hbo := fun W (hW : Below w.heap.size w W) => SRight_c a d l (h.below hW)
  have hlt := h.lt
  unfold sclearD
  rcases sright_cases D a d l with hs | hs
  case inr =>
    rw [hs] at hbo ⊢
    rw [if_pos (by decide)]
    have Hbo := Lib.hid hbo; clear hbo
    have Hd := Lib.hid h; clear h
    go_enter Try.func99, Try.ntmps99
    go_wp2_with fail
    refine (Hbo.out _ (Bbox _ _)).mono ?_; rintro e w1 ⟨rfl, hb1⟩
    go_wp2_with fail
    go_ret
    exact ⟨rfl, Turn2.of_below Hd.out (Bthen (Bbox _ _) hb1)⟩
  rw [hs] at hbo ⊢
  rw [if_neg (by simp)]
  have Hbo := Lib.hid hbo; clear hbo
  have Hd := Lib.hid h; clear h
  have Hlt := Lib.hid hlt; clear hlt
  have i0 := splaces0
  have i1 := splaces1
  have hw1 := fun (W : World) (S' : Nat → Prop) (A : Option Addr) (c : Nat) (h2 : Duo W x u m D U S') hb hA => h2.write 2 A 512 c blankS hF (by omega) hb hA
  have hF1 := hF.write 2 blankS
  obtain ⟨⟨f1, D1⟩, hR1⟩ : ∃ R, writeD D 2 blankS = R := ⟨_, rfl⟩
  rw [hR1] at hw1 hF1 ⊢
  have hw2 := fun (W : World) (S' : Nat → Prop) (A : Option Addr) (c : Nat) (h2 : Duo W x u m D1 U S') hb hA => h2.write 3 A 512 c blankS hF1 (by omega) hb hA
  have hF2 := hF1.write 3 blankS
  simp only at hw1 hw2 hF2 ⊢
  obtain ⟨⟨f2, D2⟩, hR2⟩ : ∃ R, writeD D1 3 blankS = R := ⟨_, rfl⟩
  rw [hR2] at hw2 hF2 ⊢
  have hfl := fun (W : World) (S' : Nat → Prop) (h2 : Duo W x u m D2 U S') => h2.flush hF2 (by omega)
  simp only at hw2 hfl ⊢
  obtain ⟨⟨f3, D3⟩, hR3⟩ : ∃ R, flushD D2 = R := ⟨_, rfl⟩
  rw [hR3] at hfl ⊢
  clear hR1 hR2 hR3
  have Hw1 := Lib.hid hw1; clear hw1
  have Hw2 := Lib.hid hw2; clear hw2
  have Hfl := Lib.hid hfl; clear hfl
  by_cases z1 : f1 = 0
  case neg =>
    rw [if_pos (Ne.intro z1)]
    simp only
    go_enter Try.func99, Try.ntmps99
    go_wp2_with fail
    refine (Hbo.out _ (Bbox _ _)).mono ?_; rintro e w1 ⟨rfl, hb1⟩
    have hB1 := Bthen (Bbox _ _) hb1
    go_wp2_with fail
    refine (SPlaces_any _).mono ?_; rintro e w2 ⟨rfl, hb2⟩
    go_wp2_with fail
    refine wp_loop_rounds 3 ?_
    rw [rounds_succ]
    go_wp2_with fail
    refine (Blank_at _).mono ?_; rintro e w3 ⟨rfl, hblk, hb3⟩
    have hB3 := Bthen (Bthen hB1 hb2) hb3
    have hz2 := (Bthen hB1 hb2).size
    have Hq := Lib.hid (Hw1.out w3 S _ 512 (Hd.out.below hB3) (BytesAt.of_block 512 blankS_len hblk) (fun _ g o e hs => by cases e; have := Hlt.out _ hs; omega))
    clear hblk
    go_wp2_with fail
    refine Hq.out.mono ?_; rintro e w4 ⟨rfl, ht⟩
    go_wp2_with fail
    go_ret
    exact ⟨rfl, ht.after hB3⟩
  subst z1
  rw [if_neg (by simp)]
  by_cases z2 : f2 = 0
  case neg =>
    rw [if_pos (Ne.intro z2)]
    simp only
    go_enter Try.func99, Try.ntmps99
    go_wp2_with fail
    refine (Hbo.out _ (Bbox _ _)).mono ?_; rintro e w1 ⟨rfl, hb1⟩
    have hB1 := Bthen (Bbox _ _) hb1
    go_wp2_with fail
    refine (SPlaces_any _).mono ?_; rintro e w2 ⟨rfl, hb2⟩
    go_wp2_with fail
    refine wp_loop_rounds 3 ?_
    rw [rounds_succ]
    go_wp2_with fail
    refine (Blank_at _).mono ?_; rintro e w3 ⟨rfl, hblk, hb3⟩
    have hB3 := Bthen (Bthen hB1 hb2) hb3
    have hz2 := (Bthen hB1 hb2).size
    have Hq := Lib.hid (Hw1.out w3 S _ 512 (Hd.out.below hB3) (BytesAt.of_block 512 blankS_len hblk) (fun _ g o e hs => by cases e; have := Hlt.out _ hs; omega))
    clear hblk
    go_wp2_with fail
    refine Hq.out.mono ?_; rintro e w4 ⟨rfl, S4, hd4, hf4, hS4⟩
    have hlt4 := hd4.lt
    have Hd4 := Lib.hid hd4
    have Hlt4 := Lib.hid hlt4
    clear hd4 hlt4
    go_wp2_with fail
    rw [rounds_succ]
    go_wp2_with fail
    refine (Blank_at _).mono ?_; rintro e w5 ⟨rfl, hblk, hb5⟩
    have Hq2 := Lib.hid (Hw2.out w5 S4 _ 512 (Hd4.out.below hb5) (BytesAt.of_block 512 blankS_len hblk) (fun _ g o e hs => by cases e; have := Hlt4.out _ hs; omega))
    clear hblk
    go_wp2_with fail
    refine Hq2.out.mono ?_; rintro e w6 ⟨rfl, ht⟩
    go_wp2_with fail
    go_ret
    exact ⟨rfl, (Turn2.comp (Frame.then hf4 hb5) hS4 ht).after hB3⟩
  subst z2
  rw [if_neg (by simp)]
  simp only
  go_enter Try.func99, Try.ntmps99
  go_wp2_with fail
  refine (Hbo.out _ (Bbox _ _)).mono ?_; rintro e w1 ⟨rfl, hb1⟩
  have hB1 := Bthen (Bbox _ _) hb1
  go_wp2_with fail
  refine (SPlaces_any _).mono ?_; rintro e w2 ⟨rfl, hb2⟩
  go_wp2_with fail
  refine wp_loop_rounds 3 ?_
  rw [rounds_succ]
  go_wp2_with fail
  refine (Blank_at _).mono ?_; rintro e w3 ⟨rfl, hblk, hb3⟩
  have hB3 := Bthen (Bthen hB1 hb2) hb3
  have hz2 := (Bthen hB1 hb2).size
  have Hq := Lib.hid (Hw1.out w3 S _ 512 (Hd.out.below hB3) (BytesAt.of_block 512 blankS_len hblk) (fun _ g o e hs => by cases e; have := Hlt.out _ hs; omega))
  clear hblk
  go_wp2_with fail
  refine Hq.out.mono ?_; rintro e w4 ⟨rfl, S4, hd4, hf4, hS4⟩
  have hlt4 := hd4.lt
  have Hd4 := Lib.hid hd4
  have Hlt4 := Lib.hid hlt4
  clear hd4 hlt4
  go_wp2_with fail
  rw [rounds_succ]
  go_wp2_with fail
  refine (Blank_at _).mono ?_; rintro e w5 ⟨rfl, hblk, hb5⟩
  have Hq2 := Lib.hid (Hw2.out w5 S4 _ 512 (Hd4.out.below hb5) (BytesAt.of_block 512 blankS_len hblk) (fun _ g o e hs => by cases e; have := Hlt4.out _ hs; omega))
  clear hblk
  go_wp2_with fail
  refine Hq2.out.mono ?_; rintro e w6 ⟨rfl, S6, hd6, hf6, hS6⟩
  have Hq3 := Lib.hid (Hfl.out w6 S6 hd6)
  clear hd6
  go_wp2_with fail
  rw [rounds_succ]
  go_wp2_with fail
  refine Hq3.out.mono ?_; rintro e w7 ⟨rfl, ht⟩
  go_wp2_with fail
  go_ret
  exact ⟨rfl, (Turn2.comp (Frame.then hf4 hb5) hS4 (Turn2.comp hf6 hS6 ht)).after hB3⟩

end
end Go.Proofs.Ytdjndeleafhglaa
namespace Go.Proofs.Ytdjndeleafhglaa
open Go.RowKit

/-- The word at a place. -/
theorem SWhere_any (a d l p : Int) (hr : gRight a d l = true) (hp : -9223372036854775808 ≤ p) (w : World) :
    Calls Try.prog 42 #[geoV a d l, .int .i64 p] w fun e w' => ∃ s i, e = .returned (.tuple #[.string s, .int .i64 i]) ∧ ((p = 2 ∨ p = 3) → s = ⟨#[115, 117, 112, 101, 114]⟩) ∧ (¬ (p = 2 ∨ p = 3) → (s.toList == [115, 117, 112, 101, 114]) = false) ∧ Below w.heap.size w w' := by
  refine (Where_any a d l p w hp).mono fun e w' ⟨he, hb⟩ => ⟨_, _, he, fun h => ?_, fun h => ?_, hb⟩
  · have := gSize_ge hr
    rw [gWhere_super (by omega) (by omega) (by omega)]
    rfl
  · by_cases h0 : p < 0 ∨ gSize a d l ≤ p
    · rw [gWhere_no h0]; simp [gWord]
    · by_cases h1 : p < 2
      · rw [gWhere_root h0 h1]; simp [gWord]
      · have h2 : ¬ p < 4 := by omega
        by_cases h3 : p < 4 + l
        · rw [gWhere_log h0 h1 h2 h3]; simp [gWord]
        · rw [gWhere_area h0 h1 h2 h3]; simp [gWord]

theorem frozen3 {w : World} {x : Nat} {cs : Array Value} {t : TypeId} (h : w.heap[x]? = some (.cells cs t (0, 0))) : ∀ i, w.frozen? ⟨x, i, none⟩ = false := fun i => by simp [World.frozen?, h]
theorem decU_gen {U : List (List UInt8)} {p : Int} {b : List UInt8} (h : (decU U p b).1 = 0) : (decU U p b).2.life < 18446744073709551616 ∧ (decU U p b).2.gen < 18446744073709551616 ∧ (decU U p b).2.body.length ≤ 479 := by
  obtain ⟨x, hx⟩ : ∃ x, decU U p b = (0, x) := ⟨_, Prod.ext h rfl⟩
  rw [hx]
  have h1 := ofS_gen (decU_of hx)
  have h2 := rightS_ok.1 (decU_ok hx).2.2.1
  exact ⟨h1.1, h1.2, h2.2.2.2.2.2.2⟩

theorem set3 {w : World} {g : Nat} {a0 a1 a2 : Value} {t : TypeId} (h : w.heap[g]? = some (.cells #[a0, a1, a2] t (0, 0))) (b0 b1 b2 : Value) :
    (((w.setCell ⟨g, 0, none⟩ b0).setCell ⟨g, 1, none⟩ b1).setCell ⟨g, 2, none⟩ b2).heap[g]? = some (.cells #[b0, b1, b2] t (0, 0)) ∧ Frame (fun k => k = g) w (((w.setCell ⟨g, 0, none⟩ b0).setCell ⟨g, 1, none⟩ b1).setCell ⟨g, 2, none⟩ b2) := by
  constructor
  · have := blk_set (blk_set (blk_set h 0 b0) 1 b1) 2 b2
    simpa using this
  · exact ((((Frame.refl (fun k => k = g) w).setCell (.inl rfl) b0).setCell (.inl rfl) b1).setCell (.inl rfl) b2)

def atV (R : Option SupV × Int) : Value := .tuple #[supV (R.1.getD supZ), .bool R.1.isSome, .int .i64 R.2]

section
variable {w : World} {x u m q : Nat} {D : DS} {U : List (List UInt8)} {S : Nat → Prop}

/-- A box of the sort, and a blank one. -/
theorem boxes3z (w : World) (a b c : Value) (t : TypeId) : Below w.heap.size w ((w.alloc (.cells #[a, b, c] t)).alloc (.cells #[.int .u64 0, .int .i64 0, .int .u64 0] 109)) ∧ ((w.alloc (.cells #[a, b, c] t)).alloc (.cells #[.int .u64 0, .int .i64 0, .int .u64 0] 109)).heap[w.heap.size]? = some (.cells #[a, b, c] t (0, 0)) ∧
    ((w.alloc (.cells #[a, b, c] t)).alloc (.cells #[.int .u64 0, .int .i64 0, .int .u64 0] 109)).heap[w.heap.size + 1]? = some (.cells #[.int .u64 0, .int .i64 0, .int .u64 0] 109 (0, 0)) := boxes33 w a b c _ _ _ t _

set_option maxRecDepth 100000 in
set_option maxHeartbeats 1000000 in
theorem SAt_no (a d l p : Int) (h : Duo w x u m D U S) (hp : -9223372036854775808 ≤ p) (hn : srightD D a d l ≠ 0 ∨ ¬ (p = 2 ∨ p = 3)) :
    Calls Try.prog 110 #[.pointer (some ⟨x, 0, none⟩), .pointer (some ⟨u, 0, none⟩), geoV a d l, .int .i64 p] w fun e w' => e = .returned (.tuple #[supV supZ, .bool false, .int .i64 2]) ∧ Below w.heap.size w w' := by
  have hbo := fun W (hW : Below w.heap.size w W) => SBoth_c a d l (h.below hW)
  have hbxs := boxes3z w (.int .i64 a) (.int .i64 d) (.int .i64 l) 23
  have Hbo := Lib.hid hbo; clear hbo
  have Hbx := Lib.hid hbxs; clear hbxs
  clear h
  unfold supV supZ
  rcases sright_cases D a d l with hs | hs
  case inr =>
    rw [hs] at Hbo
    clear hn
    go_enter Try.func110, Try.ntmps110
    go_wp2_with fail
    obtain ⟨hB0, hX0, hY0⟩ := Hbx.out
    generalize (w.alloc (.cells #[.int .i64 a, .int .i64 d, .int .i64 l] 23)).alloc (.cells #[.int .u64 0, .int .i64 0, .int .u64 0] 109) = W0 at hB0 hX0 hY0 ⊢
    refine (Hbo.out _ hB0).mono ?_; rintro e w1 ⟨rfl, hb1⟩
    have hY1 := (hb1.block _ (blk_lt hY0)).trans hY0
    obtain ⟨y0, y1, y2⟩ := cells3 hY1
    have hyf := frozen3 hY1
    go_wp2_with fail
    have hst := set3 hY1 (.int .u64 0) (.int .i64 0) (.int .u64 0)
    generalize ((w1.setCell ⟨w.heap.size + 1, 0, none⟩ (.int .u64 0)).setCell ⟨w.heap.size + 1, 1, none⟩ (.int .i64 0)).setCell ⟨w.heap.size + 1, 2, none⟩ (.int .u64 0) = wz at hst ⊢
    obtain ⟨q1, q2⟩ := hst
    obtain ⟨r0, r1, r2⟩ := cells3 q1
    refine bodyPost_ret (v := .tuple #[.agg #[.int .u64 0, .int .i64 0, .int .u64 0], .bool false, .int .i64 2]) ?_ rfl ⟨rfl, (Bthen hB0 hb1).trans (q2.own (by omega) ((Bthen hB0 hb1)).size)⟩
    simp [results, Try.results110, go_sem, r0, r1, r2]
  have hn2 : ¬ (p = 2 ∨ p = 3) := hn.resolve_left (fun e => e hs)
  have hr : gRight a d l = true := by
    unfold srightD at hs
    split at hs
    · rename_i h; exact h.1
    · cases hs
  have hwh := fun W => SWhere_any a d l p hr hp W
  rw [hs] at Hbo
  have Hwh := Lib.hid hwh; clear hwh
  have Hn2 := Lib.hid hn2
  clear hn hn2 hr hs
  go_enter Try.func110, Try.ntmps110
  go_wp2_with fail
  obtain ⟨hB0, hX0, hY0⟩ := Hbx.out
  generalize (w.alloc (.cells #[.int .i64 a, .int .i64 d, .int .i64 l] 23)).alloc (.cells #[.int .u64 0, .int .i64 0, .int .u64 0] 109) = W0 at hB0 hX0 hY0 ⊢
  refine (Hbo.out _ hB0).mono ?_; rintro e w1 ⟨rfl, hb1⟩
  have hX1 := (hb1.block _ (blk_lt hX0)).trans hX0
  have hY1 := (hb1.block _ (blk_lt hY0)).trans hY0
  obtain ⟨x0, x1, x2⟩ := cells3 hX1
  go_wp2_with fail
  refine (Hwh.out _).mono ?_; rintro e w2 ⟨s, i, rfl, _, hs2, hb2⟩
  have hs3 := hs2 Hn2.out
  have hY2 := (hb2.block _ (blk_lt hY1)).trans hY1
  obtain ⟨y0, y1, y2⟩ := cells3 hY2
  have hyf := frozen3 hY2
  clear x0 x1 x2 hs2
  go_wp2_with fail
  have hst := set3 hY2 (.int .u64 0) (.int .i64 0) (.int .u64 0)
  generalize ((w2.setCell ⟨w.heap.size + 1, 0, none⟩ (.int .u64 0)).setCell ⟨w.heap.size + 1, 1, none⟩ (.int .i64 0)).setCell ⟨w.heap.size + 1, 2, none⟩ (.int .u64 0) = wz at hst ⊢
  obtain ⟨q1, q2⟩ := hst
  obtain ⟨r0, r1, r2⟩ := cells3 q1
  refine bodyPost_ret (v := .tuple #[.agg #[.int .u64 0, .int .i64 0, .int .u64 0], .bool false, .int .i64 2]) ?_ rfl ⟨rfl, (Bthen (Bthen hB0 hb1) hb2).trans (q2.own (by omega) ((Bthen (Bthen hB0 hb1) hb2)).size)⟩
  simp [results, Try.results110, go_sem, r0, r1, r2]

set_option maxRecDepth 100000 in
set_option maxHeartbeats 4000000 in
theorem SAt_yes (a d l : Int) (p : Nat) (h : Duo w x u m D U S) (hp : p = 2 ∨ p = 3) (hs : srightD D a d l = 0) :
    Calls Try.prog 110 #[.pointer (some ⟨x, 0, none⟩), .pointer (some ⟨u, 0, none⟩), geoV a d l, .int .i64 (p : Int)] w fun e w' => e = .returned (atV (satD D U a d l (p : Int))) ∧ Below w.heap.size w w' := by
  have hbo := fun W (hW : Below w.heap.size w W) => SBoth_c a d l (h.below hW)
  rw [hs] at hbo
  have hbxs := boxes3z w (.int .i64 a) (.int .i64 d) (.int .i64 l) 23
  have hr : gRight a d l = true := by
    unfold srightD at hs
    split at hs
    · rename_i h; exact h.1
    · cases hs
  have hwh := fun W => SWhere_any a d l (p : Int) hr (by omega) W
  have hrd := fun W (hW : Below w.heap.size w W) => (h.below hW).read (p : Int)
  have hde := fun W (hW : Below w.heap.size w W) A n c b hb hc => (h.below hW).decode (p : Int) A n c b hb hc
  have hmk := fun W => SMark_any a d l W
  have hml := gMark_len a d l
  unfold satD
  rw [hs, if_neg (by simp), if_pos (by omega), Int.toNat_natCast]
  have Hbo := Lib.hid hbo; clear hbo
  have Hbx := Lib.hid hbxs; clear hbxs
  have Hwh := Lib.hid hwh; clear hwh
  have Hde := Lib.hid hde; clear hde
  have Hmk := Lib.hid hmk; clear hmk
  have Hp := Lib.hid (show (p : Int) = 2 ∨ (p : Int) = 3 by omega)
  clear h hs hr hp
  generalize readX D (p : Int) = R at *
  obtain ⟨b, f⟩ := R
  simp only at hrd ⊢
  have Hrd := Lib.hid hrd; clear hrd
  by_cases hf : f = 0
  case neg =>
    rw [if_pos (Ne.intro hf)]
    unfold atV supV supZ
    simp only [Option.getD_none, Option.isSome_none]
    go_enter Try.func110, Try.ntmps110
    go_wp2_with fail
    obtain ⟨hB0, hX0, hY0⟩ := Hbx.out
    generalize (w.alloc (.cells #[.int .i64 a, .int .i64 d, .int .i64 l] 23)).alloc (.cells #[.int .u64 0, .int .i64 0, .int .u64 0] 109) = W0 at hB0 hX0 hY0 ⊢
    refine (Hbo.out _ hB0).mono ?_; rintro e w1 ⟨rfl, hb1⟩
    have hX1 := (hb1.block _ (blk_lt hX0)).trans hX0
    have hY1 := (hb1.block _ (blk_lt hY0)).trans hY0
    obtain ⟨x0, x1, x2⟩ := cells3 hX1
    go_wp2_with fail
    refine (Hwh.out _).mono ?_; rintro e w2 ⟨s, i, rfl, hs2, _, hb2⟩
    obtain rfl := hs2 Hp.out
    have hX2 := (hb2.block _ (blk_lt hX1)).trans hX1
    have hY2 := (hb2.block _ (blk_lt hY1)).trans hY1
    have hB2 := Bthen (Bthen hB0 hb1) hb2
    clear x0 x1 x2 hs2 hX0 hX1 hY0 hY1
    go_wp2_with fail
    refine (Hrd.out _ hB2).mono ?_; rintro e w3 ⟨A3, c3, rfl, _, _, _, hb3⟩
    have hY3 := (hb3.block _ (blk_lt hY2)).trans hY2
    obtain ⟨y0, y1, y2⟩ := cells3 hY3
    have hyf := frozen3 hY3
    go_wp2_with fail
    have hst := set3 hY3 (.int .u64 0) (.int .i64 0) (.int .u64 0)
    generalize ((w3.setCell ⟨w.heap.size + 1, 0, none⟩ (.int .u64 0)).setCell ⟨w.heap.size + 1, 1, none⟩ (.int .i64 0)).setCell ⟨w.heap.size + 1, 2, none⟩ (.int .u64 0) = wz at hst ⊢
    obtain ⟨q1, q2⟩ := hst
    obtain ⟨r0, r1, r2⟩ := cells3 q1
    refine bodyPost_ret (v := .tuple #[.agg #[.int .u64 0, .int .i64 0, .int .u64 0], .bool false, .int .i64 f]) ?_ rfl ⟨rfl, (Bthen hB2 hb3).trans (q2.own (by omega) ((Bthen hB2 hb3)).size)⟩
    simp [results, Try.results110, go_sem, r0, r1, r2]
  subst hf
  rw [if_neg (by simp)]
  unfold superB superOf
  have hde := fun W (hW : Below w.heap.size w W) A n c hb hc => Hde.out W hW A n c b hb hc
  have hgn := decU_gen (U := U) (p := (p : Int)) (b := b)
  clear Hde
  generalize decU U (p : Int) b = R at hde hgn ⊢
  obtain ⟨f2, ⟨zk, zl, zs, zg, zb⟩⟩ := R
  simp only at hgn ⊢
  have Hde := Lib.hid hde; clear hde
  have hsp : (2 : Int) + (zl : Int) % 2 = (splace zl : Int) := by unfold splace; omega
  have hsu := fun W (h0 : (zl : Int) < 18446744073709551616) => Super_any (zl : Int) W (by omega) h0
  rw [hsp] at hsu
  have Hsu := Lib.hid hsu; clear hsu hsp
  generalize splace zl = sp at *
  by_cases hf2 : f2 = 0
  case neg =>
    rw [if_neg hf2]
    unfold atV supV supZ
    simp only [Option.getD_none, Option.isSome_none]
    go_enter Try.func110, Try.ntmps110
    go_wp2_with fail
    obtain ⟨hB0, hX0, hY0⟩ := Hbx.out
    generalize (w.alloc (.cells #[.int .i64 a, .int .i64 d, .int .i64 l] 23)).alloc (.cells #[.int .u64 0, .int .i64 0, .int .u64 0] 109) = W0 at hB0 hX0 hY0 ⊢
    refine (Hbo.out _ hB0).mono ?_; rintro e w1 ⟨rfl, hb1⟩
    have hX1 := (hb1.block _ (blk_lt hX0)).trans hX0
    have hY1 := (hb1.block _ (blk_lt hY0)).trans hY0
    obtain ⟨x0, x1, x2⟩ := cells3 hX1
    go_wp2_with fail
    refine (Hwh.out _).mono ?_; rintro e w2 ⟨s, i, rfl, hs2, _, hb2⟩
    obtain rfl := hs2 Hp.out
    have hX2 := (hb2.block _ (blk_lt hX1)).trans hX1
    have hY2 := (hb2.block _ (blk_lt hY1)).trans hY1
    have hB2 := Bthen (Bthen hB0 hb1) hb2
    clear x0 x1 x2 hs2 hX0 hX1 hY0 hY1
    go_wp2_with fail
    refine (Hrd.out _ hB2).mono ?_; rintro e w3 ⟨A3, c3, rfl, hby, hca, hle, hb3⟩
    have hB3 := Bthen hB2 hb3
    have Hd3 := Lib.hid (Hde.out w3 hB3 A3 _ c3 hby hca)
    have hX3 := (hb3.block _ (blk_lt hX2)).trans hX2
    have hY3 := (hb3.block _ (blk_lt hY2)).trans hY2
    clear hby hca hle hX2 hY2
    go_wp2_with fail
    refine Hd3.out.mono ?_; rintro e w4 ⟨A4, c4, rfl, hown, hb4⟩
    have hX4 := (hb4.block _ (blk_lt hX3)).trans hX3
    have hY4 := (hb4.block _ (blk_lt hY3)).trans hY3
    have hB4 := Bthen hB3 hb4
    have Hown := Lib.hid hown
    clear hown hX3 hY3
    unfold secV
    simp only
    go_wp2_with fail
    have hZ5 := heap_alloc_new w4 (.cells #[.int .i64 zk, .int .u64 (zl : Int), .int .i64 zs, .int .u64 (zg : Int), .slice A4 zb.length c4] 54)
    have hb5 : Below w4.heap.size w4 (w4.alloc (.cells #[.int .i64 zk, .int .u64 (zl : Int), .int .i64 zs, .int .u64 (zg : Int), .slice A4 zb.length c4] 54)) := Bbox _ _
    generalize w4.alloc (.cells #[.int .i64 zk, .int .u64 (zl : Int), .int .i64 zs, .int .u64 (zg : Int), .slice A4 zb.length c4] 54) = w5 at hZ5 hb5 ⊢
    have hX5 := (hb5.block _ (blk_lt hX4)).trans hX4
    have hY5 := (hb5.block _ (blk_lt hY4)).trans hY4
    have hB5 := Bthen hB4 hb5
    have hby5 := (BytesAt.own Hown.out).below hb5
    have hca5 := own_cap Hown.out
    have Hby5 := Lib.hid hby5
    have fx := fun v : InS (BelowW w5) => cells3 ((v.h.block _ (blk_lt hX5)).trans hX5)
    have x0 := fun v => (fx v).1
    have x1 := fun v => (fx v).2.1
    have x2 := fun v => (fx v).2.2
    clear fx hX4 hY4 hby5
    have zzb := box_facts (((Bnil w5).block _ (blk_lt hZ5)).trans hZ5); have zz0 := fun x => (zzb x).1; have zz1 := fun x => (zzb x).2.1; have zz2 := fun x => (zzb x).2.2.1; have zz3 := fun x => (zzb x).2.2.2.1; have zz4 := fun x => (zzb x).2.2.2.2; clear zzb
    refine wp_region_in (BelowW w5) [(0, true), (1, true), (2, true), (3, true), (4, true), (5, true), (6, true), (7, true), (8, true), (9, true), (11, true), (10, false), (12, true), (13, true), (14, true), (15, true), (16, true), (17, true), (18, false), (19, false), (20, true), (21, true)] (by kernel_rfl) (by kernel_rfl) (fun _ _ _ _ _ h => h) (inB_drew _) (fun hne => ?_)
    simp only [permOps, List.map_cons, List.map_nil, List.getD_cons_zero, List.getD_cons_succ]
    (repeat ((with_reducible refine wpPerm_F ?_); intro K hK; go_simp; refine hK _ _ ?_; clear hK K))
    (with_reducible refine wpPerm_G ?_); intro K K' hK hK'; go_simp
    (refine hK' _ _ ?_; clear hK hK' K K')
    (repeat ((with_reducible refine wpPerm_F ?_); intro K hK; go_simp; refine hK _ _ ?_; clear hK K))
    (with_reducible refine wpPerm_G ?_); intro K K' hK hK'; go_simp
    (refine hK' _ _ ?_; clear hK hK' K K')
    (with_reducible refine wpPerm_G ?_); intro K K' hK hK'; go_simp
    (refine hK' _ _ ?_; clear hK hK' K K')
    (repeat ((with_reducible refine wpPerm_F ?_); intro K hK; go_simp; refine hK _ _ ?_; clear hK K))
    have hV : Below w5.heap.size w5 w5.drew := Bdrew (Bnil _)
    refine wpPerm_nil ?_
    generalize w5.drew = w6 at hV ⊢
    clear x0 x1 x2 zz0 zz1 zz2 zz3 zz4
    have hY6 := (hV.block _ (blk_lt hY5)).trans hY5
    obtain ⟨y0, y1, y2⟩ := cells3 hY6
    have hyf := frozen3 hY6
    go_wp2_with fail
    have hst := set3 hY6 (.int .u64 0) (.int .i64 0) (.int .u64 0)
    generalize ((w6.setCell ⟨w.heap.size + 1, 0, none⟩ (.int .u64 0)).setCell ⟨w.heap.size + 1, 1, none⟩ (.int .i64 0)).setCell ⟨w.heap.size + 1, 2, none⟩ (.int .u64 0) = wz at hst ⊢
    obtain ⟨q1, q2⟩ := hst
    obtain ⟨r0, r1, r2⟩ := cells3 q1
    refine bodyPost_ret (v := .tuple #[.agg #[.int .u64 0, .int .i64 0, .int .u64 0], .bool false, .int .i64 0]) ?_ rfl ⟨rfl, (Bthen hB5 hV).trans (q2.own (by omega) ((Bthen hB5 hV)).size)⟩
    simp [results, Try.results110, go_sem, r0, r1, r2]
  subst hf2
  rw [if_pos rfl]
  by_cases hk : zk = 2
  case neg =>
    rw [if_neg (fun h => hk h.1)]
    unfold atV supV supZ
    simp only [Option.getD_none, Option.isSome_none]
    go_enter Try.func110, Try.ntmps110
    go_wp2_with fail
    obtain ⟨hB0, hX0, hY0⟩ := Hbx.out
    generalize (w.alloc (.cells #[.int .i64 a, .int .i64 d, .int .i64 l] 23)).alloc (.cells #[.int .u64 0, .int .i64 0, .int .u64 0] 109) = W0 at hB0 hX0 hY0 ⊢
    refine (Hbo.out _ hB0).mono ?_; rintro e w1 ⟨rfl, hb1⟩
    have hX1 := (hb1.block _ (blk_lt hX0)).trans hX0
    have hY1 := (hb1.block _ (blk_lt hY0)).trans hY0
    obtain ⟨x0, x1, x2⟩ := cells3 hX1
    go_wp2_with fail
    refine (Hwh.out _).mono ?_; rintro e w2 ⟨s, i, rfl, hs2, _, hb2⟩
    obtain rfl := hs2 Hp.out
    have hX2 := (hb2.block _ (blk_lt hX1)).trans hX1
    have hY2 := (hb2.block _ (blk_lt hY1)).trans hY1
    have hB2 := Bthen (Bthen hB0 hb1) hb2
    clear x0 x1 x2 hs2 hX0 hX1 hY0 hY1
    go_wp2_with fail
    refine (Hrd.out _ hB2).mono ?_; rintro e w3 ⟨A3, c3, rfl, hby, hca, hle, hb3⟩
    have hB3 := Bthen hB2 hb3
    have Hd3 := Lib.hid (Hde.out w3 hB3 A3 _ c3 hby hca)
    have hX3 := (hb3.block _ (blk_lt hX2)).trans hX2
    have hY3 := (hb3.block _ (blk_lt hY2)).trans hY2
    clear hby hca hle hX2 hY2
    go_wp2_with fail
    refine Hd3.out.mono ?_; rintro e w4 ⟨A4, c4, rfl, hown, hb4⟩
    have hX4 := (hb4.block _ (blk_lt hX3)).trans hX3
    have hY4 := (hb4.block _ (blk_lt hY3)).trans hY3
    have hB4 := Bthen hB3 hb4
    have Hown := Lib.hid hown
    clear hown hX3 hY3
    unfold secV
    simp only
    go_wp2_with fail
    have hZ5 := heap_alloc_new w4 (.cells #[.int .i64 zk, .int .u64 (zl : Int), .int .i64 zs, .int .u64 (zg : Int), .slice A4 zb.length c4] 54)
    have hb5 : Below w4.heap.size w4 (w4.alloc (.cells #[.int .i64 zk, .int .u64 (zl : Int), .int .i64 zs, .int .u64 (zg : Int), .slice A4 zb.length c4] 54)) := Bbox _ _
    generalize w4.alloc (.cells #[.int .i64 zk, .int .u64 (zl : Int), .int .i64 zs, .int .u64 (zg : Int), .slice A4 zb.length c4] 54) = w5 at hZ5 hb5 ⊢
    have hX5 := (hb5.block _ (blk_lt hX4)).trans hX4
    have hY5 := (hb5.block _ (blk_lt hY4)).trans hY4
    have hB5 := Bthen hB4 hb5
    have hby5 := (BytesAt.own Hown.out).below hb5
    have hca5 := own_cap Hown.out
    have Hby5 := Lib.hid hby5
    have fx := fun v : InS (BelowW w5) => cells3 ((v.h.block _ (blk_lt hX5)).trans hX5)
    have x0 := fun v => (fx v).1
    have x1 := fun v => (fx v).2.1
    have x2 := fun v => (fx v).2.2
    clear fx hX4 hY4 hby5
    have zzb := box_facts (((Bnil w5).block _ (blk_lt hZ5)).trans hZ5); have zz0 := fun x => (zzb x).1; have zz1 := fun x => (zzb x).2.1; have zz2 := fun x => (zzb x).2.2.1; have zz3 := fun x => (zzb x).2.2.2.1; have zz4 := fun x => (zzb x).2.2.2.2; clear zzb
    refine wp_region_in (BelowW w5) [(0, true), (1, true), (2, true), (3, true), (4, true), (5, true), (6, true), (7, true), (8, true), (9, true), (11, true), (10, false), (12, true), (13, true), (14, true), (15, true), (16, true), (17, true), (18, false), (19, false), (20, true), (21, true)] (by kernel_rfl) (by kernel_rfl) (fun _ _ _ _ _ h => h) (inB_drew _) (fun hne => ?_)
    simp only [permOps, List.map_cons, List.map_nil, List.getD_cons_zero, List.getD_cons_succ]
    (repeat ((with_reducible refine wpPerm_F ?_); intro K hK; go_simp; refine hK _ _ ?_; clear hK K))
    (with_reducible refine wpPerm_G ?_); intro K K' hK hK'; go_simp
    (refine hK' _ _ ?_; clear hK hK' K K')
    (repeat ((with_reducible refine wpPerm_F ?_); intro K hK; go_simp; refine hK _ _ ?_; clear hK K))
    (with_reducible refine wpPerm_G ?_); intro K K' hK hK'; go_simp
    (refine hK' _ _ ?_; clear hK hK' K K')
    (with_reducible refine wpPerm_G ?_); intro K K' hK hK'; go_simp
    (refine hK' _ _ ?_; clear hK hK' K K')
    (repeat ((with_reducible refine wpPerm_F ?_); intro K hK; go_simp; refine hK _ _ ?_; clear hK K))
    have hV : Below w5.heap.size w5 w5.drew := Bdrew (Bnil _)
    refine wpPerm_nil ?_
    generalize w5.drew = w6 at hV ⊢
    clear x0 x1 x2 zz0 zz1 zz2 zz3 zz4
    have hY6 := (hV.block _ (blk_lt hY5)).trans hY5
    obtain ⟨y0, y1, y2⟩ := cells3 hY6
    have hyf := frozen3 hY6
    go_wp2_with fail
    have hst := set3 hY6 (.int .u64 0) (.int .i64 0) (.int .u64 0)
    generalize ((w6.setCell ⟨w.heap.size + 1, 0, none⟩ (.int .u64 0)).setCell ⟨w.heap.size + 1, 1, none⟩ (.int .i64 0)).setCell ⟨w.heap.size + 1, 2, none⟩ (.int .u64 0) = wz at hst ⊢
    obtain ⟨q1, q2⟩ := hst
    obtain ⟨r0, r1, r2⟩ := cells3 q1
    refine bodyPost_ret (v := .tuple #[.agg #[.int .u64 0, .int .i64 0, .int .u64 0], .bool false, .int .i64 0]) ?_ rfl ⟨rfl, (Bthen hB5 hV).trans (q2.own (by omega) ((Bthen hB5 hV)).size)⟩
    simp [results, Try.results110, go_sem, r0, r1, r2]
  subst hk
  have hzl := (hgn rfl).1
  have Hzl := Lib.hid hzl
  clear hzl
  by_cases hpl : sp = p
  case neg =>
    rw [if_neg (fun h => hpl h.2.1)]
    unfold atV supV supZ
    simp only [Option.getD_none, Option.isSome_none]
    have hpl' : ¬ (sp : Int) = (p : Int) := by omega
    go_enter Try.func110, Try.ntmps110
    go_wp2_with fail
    obtain ⟨hB0, hX0, hY0⟩ := Hbx.out
    generalize (w.alloc (.cells #[.int .i64 a, .int .i64 d, .int .i64 l] 23)).alloc (.cells #[.int .u64 0, .int .i64 0, .int .u64 0] 109) = W0 at hB0 hX0 hY0 ⊢
    refine (Hbo.out _ hB0).mono ?_; rintro e w1 ⟨rfl, hb1⟩
    have hX1 := (hb1.block _ (blk_lt hX0)).trans hX0
    have hY1 := (hb1.block _ (blk_lt hY0)).trans hY0
    obtain ⟨x0, x1, x2⟩ := cells3 hX1
    go_wp2_with fail
    refine (Hwh.out _).mono ?_; rintro e w2 ⟨s, i, rfl, hs2, _, hb2⟩
    obtain rfl := hs2 Hp.out
    have hX2 := (hb2.block _ (blk_lt hX1)).trans hX1
    have hY2 := (hb2.block _ (blk_lt hY1)).trans hY1
    have hB2 := Bthen (Bthen hB0 hb1) hb2
    clear x0 x1 x2 hs2 hX0 hX1 hY0 hY1
    go_wp2_with fail
    refine (Hrd.out _ hB2).mono ?_; rintro e w3 ⟨A3, c3, rfl, hby, hca, hle, hb3⟩
    have hB3 := Bthen hB2 hb3
    have Hd3 := Lib.hid (Hde.out w3 hB3 A3 _ c3 hby hca)
    have hX3 := (hb3.block _ (blk_lt hX2)).trans hX2
    have hY3 := (hb3.block _ (blk_lt hY2)).trans hY2
    clear hby hca hle hX2 hY2
    go_wp2_with fail
    refine Hd3.out.mono ?_; rintro e w4 ⟨A4, c4, rfl, hown, hb4⟩
    have hX4 := (hb4.block _ (blk_lt hX3)).trans hX3
    have hY4 := (hb4.block _ (blk_lt hY3)).trans hY3
    have hB4 := Bthen hB3 hb4
    have Hown := Lib.hid hown
    clear hown hX3 hY3
    unfold secV
    simp only
    go_wp2_with fail
    have hZ5 := heap_alloc_new w4 (.cells #[.int .i64 2, .int .u64 (zl : Int), .int .i64 zs, .int .u64 (zg : Int), .slice A4 zb.length c4] 54)
    have hb5 : Below w4.heap.size w4 (w4.alloc (.cells #[.int .i64 2, .int .u64 (zl : Int), .int .i64 zs, .int .u64 (zg : Int), .slice A4 zb.length c4] 54)) := Bbox _ _
    generalize w4.alloc (.cells #[.int .i64 2, .int .u64 (zl : Int), .int .i64 zs, .int .u64 (zg : Int), .slice A4 zb.length c4] 54) = w5 at hZ5 hb5 ⊢
    have hX5 := (hb5.block _ (blk_lt hX4)).trans hX4
    have hY5 := (hb5.block _ (blk_lt hY4)).trans hY4
    have hB5 := Bthen hB4 hb5
    have hby5 := (BytesAt.own Hown.out).below hb5
    have hca5 := own_cap Hown.out
    have Hby5 := Lib.hid hby5
    have fx := fun v : InS (BelowW w5) => cells3 ((v.h.block _ (blk_lt hX5)).trans hX5)
    have x0 := fun v => (fx v).1
    have x1 := fun v => (fx v).2.1
    have x2 := fun v => (fx v).2.2
    clear fx hX4 hY4 hby5
    have zzb := box_facts (((Bnil w5).block _ (blk_lt hZ5)).trans hZ5); have zz0 := fun x => (zzb x).1; have zz1 := fun x => (zzb x).2.1; have zz2 := fun x => (zzb x).2.2.1; have zz3 := fun x => (zzb x).2.2.2.1; have zz4 := fun x => (zzb x).2.2.2.2; clear zzb
    refine wp_region_in (BelowW w5) [(0, true), (1, true), (2, true), (3, true), (4, true), (5, true), (6, true), (7, true), (8, true), (9, true), (11, true), (10, false), (12, true), (13, true), (14, true), (15, true), (16, true), (17, true), (18, false), (19, false), (20, true), (21, true)] (by kernel_rfl) (by kernel_rfl) (fun _ _ _ _ _ h => h) (inB_drew _) (fun hne => ?_)
    simp only [permOps, List.map_cons, List.map_nil, List.getD_cons_zero, List.getD_cons_succ]
    (repeat ((with_reducible refine wpPerm_F ?_); intro K hK; go_simp; refine hK _ _ ?_; clear hK K))
    (with_reducible refine wpPerm_G ?_); intro K K' hK hK'; go_simp
    refine (Hsu.out _ (by have := Hzl.out; omega)).mono ?_; rintro e w6 ⟨rfl, rfl⟩
    (refine hK _ _ ?_; clear hK hK' K K')
    refine ⟨inB_more (inB_drew _), ?_⟩
    (repeat ((with_reducible refine wpPerm_F ?_); intro K hK; go_simp; refine hK _ _ ?_; clear hK K))
    (with_reducible refine wpPerm_G ?_); intro K K' hK hK'; go_simp
    (refine hK' _ _ ?_; clear hK hK' K K')
    (with_reducible refine wpPerm_G ?_); intro K K' hK hK'; go_simp
    (refine hK' _ _ ?_; clear hK hK' K K')
    (repeat ((with_reducible refine wpPerm_F ?_); intro K hK; go_simp; refine hK _ _ ?_; clear hK K))
    have hV : Below w5.heap.size w5 w5.drew := Bdrew (Bnil _)
    refine wpPerm_nil ?_
    generalize w5.drew = w6 at hV ⊢
    clear x0 x1 x2 zz0 zz1 zz2 zz3 zz4
    have hY6 := (hV.block _ (blk_lt hY5)).trans hY5
    obtain ⟨y0, y1, y2⟩ := cells3 hY6
    have hyf := frozen3 hY6
    go_wp2_with fail
    have hst := set3 hY6 (.int .u64 0) (.int .i64 0) (.int .u64 0)
    generalize ((w6.setCell ⟨w.heap.size + 1, 0, none⟩ (.int .u64 0)).setCell ⟨w.heap.size + 1, 1, none⟩ (.int .i64 0)).setCell ⟨w.heap.size + 1, 2, none⟩ (.int .u64 0) = wz at hst ⊢
    obtain ⟨q1, q2⟩ := hst
    obtain ⟨r0, r1, r2⟩ := cells3 q1
    refine bodyPost_ret (v := .tuple #[.agg #[.int .u64 0, .int .i64 0, .int .u64 0], .bool false, .int .i64 0]) ?_ rfl ⟨rfl, (Bthen hB5 hV).trans (q2.own (by omega) ((Bthen hB5 hV)).size)⟩
    simp [results, Try.results110, go_sem, r0, r1, r2]
  subst hpl
  have hzb : zb.length ≤ 1000000 := by have := (hgn rfl).2.2; omega
  have Hzb := Lib.hid hzb
  clear hzb
  by_cases hb : zb = gMark a d l
  case neg =>
    rw [if_neg (fun h => hb h.2.2)]
    unfold atV supV supZ
    simp only [Option.getD_none, Option.isSome_none]
    go_enter Try.func110, Try.ntmps110
    go_wp2_with fail
    obtain ⟨hB0, hX0, hY0⟩ := Hbx.out
    generalize (w.alloc (.cells #[.int .i64 a, .int .i64 d, .int .i64 l] 23)).alloc (.cells #[.int .u64 0, .int .i64 0, .int .u64 0] 109) = W0 at hB0 hX0 hY0 ⊢
    refine (Hbo.out _ hB0).mono ?_; rintro e w1 ⟨rfl, hb1⟩
    have hX1 := (hb1.block _ (blk_lt hX0)).trans hX0
    have hY1 := (hb1.block _ (blk_lt hY0)).trans hY0
    obtain ⟨x0, x1, x2⟩ := cells3 hX1
    go_wp2_with fail
    refine (Hwh.out _).mono ?_; rintro e w2 ⟨s, i, rfl, hs2, _, hb2⟩
    obtain rfl := hs2 Hp.out
    have hX2 := (hb2.block _ (blk_lt hX1)).trans hX1
    have hY2 := (hb2.block _ (blk_lt hY1)).trans hY1
    have hB2 := Bthen (Bthen hB0 hb1) hb2
    clear x0 x1 x2 hs2 hX0 hX1 hY0 hY1
    go_wp2_with fail
    refine (Hrd.out _ hB2).mono ?_; rintro e w3 ⟨A3, c3, rfl, hby, hca, hle, hb3⟩
    have hB3 := Bthen hB2 hb3
    have Hd3 := Lib.hid (Hde.out w3 hB3 A3 _ c3 hby hca)
    have hX3 := (hb3.block _ (blk_lt hX2)).trans hX2
    have hY3 := (hb3.block _ (blk_lt hY2)).trans hY2
    clear hby hca hle hX2 hY2
    go_wp2_with fail
    refine Hd3.out.mono ?_; rintro e w4 ⟨A4, c4, rfl, hown, hb4⟩
    have hX4 := (hb4.block _ (blk_lt hX3)).trans hX3
    have hY4 := (hb4.block _ (blk_lt hY3)).trans hY3
    have hB4 := Bthen hB3 hb4
    have Hown := Lib.hid hown
    clear hown hX3 hY3
    unfold secV
    simp only
    go_wp2_with fail
    have hZ5 := heap_alloc_new w4 (.cells #[.int .i64 2, .int .u64 (zl : Int), .int .i64 zs, .int .u64 (zg : Int), .slice A4 zb.length c4] 54)
    have hb5 : Below w4.heap.size w4 (w4.alloc (.cells #[.int .i64 2, .int .u64 (zl : Int), .int .i64 zs, .int .u64 (zg : Int), .slice A4 zb.length c4] 54)) := Bbox _ _
    generalize w4.alloc (.cells #[.int .i64 2, .int .u64 (zl : Int), .int .i64 zs, .int .u64 (zg : Int), .slice A4 zb.length c4] 54) = w5 at hZ5 hb5 ⊢
    have hX5 := (hb5.block _ (blk_lt hX4)).trans hX4
    have hY5 := (hb5.block _ (blk_lt hY4)).trans hY4
    have hB5 := Bthen hB4 hb5
    have hby5 := (BytesAt.own Hown.out).below hb5
    have hca5 := own_cap Hown.out
    have Hby5 := Lib.hid hby5
    have fx := fun v : InS (BelowW w5) => cells3 ((v.h.block _ (blk_lt hX5)).trans hX5)
    have x0 := fun v => (fx v).1
    have x1 := fun v => (fx v).2.1
    have x2 := fun v => (fx v).2.2
    clear fx hX4 hY4 hby5
    have zzb := box_facts (((Bnil w5).block _ (blk_lt hZ5)).trans hZ5); have zz0 := fun x => (zzb x).1; have zz1 := fun x => (zzb x).2.1; have zz2 := fun x => (zzb x).2.2.1; have zz3 := fun x => (zzb x).2.2.2.1; have zz4 := fun x => (zzb x).2.2.2.2; clear zzb
    refine wp_region_in (BelowW w5) [(0, true), (1, true), (2, true), (3, true), (4, true), (5, true), (6, true), (7, true), (8, true), (9, true), (11, true), (10, false), (12, true), (13, true), (14, true), (15, true), (16, true), (17, true), (18, false), (19, false), (20, true), (21, true)] (by kernel_rfl) (by kernel_rfl) (fun _ _ _ _ _ h => h) (inB_drew _) (fun hne => ?_)
    simp only [permOps, List.map_cons, List.map_nil, List.getD_cons_zero, List.getD_cons_succ]
    (repeat ((with_reducible refine wpPerm_F ?_); intro K hK; go_simp; refine hK _ _ ?_; clear hK K))
    (with_reducible refine wpPerm_G ?_); intro K K' hK hK'; go_simp
    refine (Hsu.out _ (by have := Hzl.out; omega)).mono ?_; rintro e w6 ⟨rfl, rfl⟩
    (refine hK _ _ ?_; clear hK hK' K K')
    refine ⟨inB_more (inB_drew _), ?_⟩
    (repeat ((with_reducible refine wpPerm_F ?_); intro K hK; go_simp; refine hK _ _ ?_; clear hK K))
    (with_reducible refine wpPerm_G ?_); intro K K' hK hK'; go_simp
    refine (Hmk.out _).mono ?_; rintro e w7 ⟨A7, c7, rfl, hown7, hb7⟩
    have hV7 : Below w5.heap.size w5 w7 := Bthen (Bdrew (Bnil _)) hb7
    have hsm := NSame_any A4 A7 zb.length (gMark a d l).length c4 c7 zb (gMark a d l) w7 (Hby5.out.below hV7) hca5 (BytesAt.own hown7) (own_cap hown7) (by have := Hzb.out; omega) (by omega)
    rw [show decide (zb = gMark a d l) = false from decide_eq_false hb] at hsm
    have Hsm := Lib.hid hsm
    clear hsm hown7
    (refine hK _ _ ?_; clear hK hK' K K')
    refine ⟨inB_more hV7, ?_⟩
    (with_reducible refine wpPerm_G ?_); intro K K' hK hK'; go_simp
    refine Hsm.out.mono ?_; rintro e w8 ⟨rfl, hb8⟩
    have hV := Bthen hV7 hb8
    (refine hK _ _ ?_; clear hK hK' K K')
    refine ⟨inB_more hV, ?_⟩
    (repeat ((with_reducible refine wpPerm_F ?_); intro K hK; go_simp; refine hK _ _ ?_; clear hK K))
    refine wpPerm_nil ?_
    clear x0 x1 x2 zz0 zz1 zz2 zz3 zz4
    have hY6 := (hV.block _ (blk_lt hY5)).trans hY5
    obtain ⟨y0, y1, y2⟩ := cells3 hY6
    have hyf := frozen3 hY6
    go_wp2_with fail
    have hst := set3 hY6 (.int .u64 0) (.int .i64 0) (.int .u64 0)
    generalize ((w8.setCell ⟨w.heap.size + 1, 0, none⟩ (.int .u64 0)).setCell ⟨w.heap.size + 1, 1, none⟩ (.int .i64 0)).setCell ⟨w.heap.size + 1, 2, none⟩ (.int .u64 0) = wz at hst ⊢
    obtain ⟨q1, q2⟩ := hst
    obtain ⟨r0, r1, r2⟩ := cells3 q1
    refine bodyPost_ret (v := .tuple #[.agg #[.int .u64 0, .int .i64 0, .int .u64 0], .bool false, .int .i64 0]) ?_ rfl ⟨rfl, (Bthen hB5 hV).trans (q2.own (by omega) ((Bthen hB5 hV)).size)⟩
    simp [results, Try.results110, go_sem, r0, r1, r2]
  rw [if_pos ⟨rfl, rfl, hb⟩]
  have Hbb := Lib.hid hb
  clear hb
  unfold atV supV
  simp only [Option.getD_some, Option.isSome_some]
  go_enter Try.func110, Try.ntmps110
  go_wp2_with fail
  obtain ⟨hB0, hX0, hY0⟩ := Hbx.out
  generalize (w.alloc (.cells #[.int .i64 a, .int .i64 d, .int .i64 l] 23)).alloc (.cells #[.int .u64 0, .int .i64 0, .int .u64 0] 109) = W0 at hB0 hX0 hY0 ⊢
  refine (Hbo.out _ hB0).mono ?_; rintro e w1 ⟨rfl, hb1⟩
  have hX1 := (hb1.block _ (blk_lt hX0)).trans hX0
  have hY1 := (hb1.block _ (blk_lt hY0)).trans hY0
  obtain ⟨x0, x1, x2⟩ := cells3 hX1
  go_wp2_with fail
  refine (Hwh.out _).mono ?_; rintro e w2 ⟨s, i, rfl, hs2, _, hb2⟩
  obtain rfl := hs2 Hp.out
  have hX2 := (hb2.block _ (blk_lt hX1)).trans hX1
  have hY2 := (hb2.block _ (blk_lt hY1)).trans hY1
  have hB2 := Bthen (Bthen hB0 hb1) hb2
  clear x0 x1 x2 hs2 hX0 hX1 hY0 hY1
  go_wp2_with fail
  refine (Hrd.out _ hB2).mono ?_; rintro e w3 ⟨A3, c3, rfl, hby, hca, hle, hb3⟩
  have hB3 := Bthen hB2 hb3
  have Hd3 := Lib.hid (Hde.out w3 hB3 A3 _ c3 hby hca)
  have hX3 := (hb3.block _ (blk_lt hX2)).trans hX2
  have hY3 := (hb3.block _ (blk_lt hY2)).trans hY2
  clear hby hca hle hX2 hY2
  go_wp2_with fail
  refine Hd3.out.mono ?_; rintro e w4 ⟨A4, c4, rfl, hown, hb4⟩
  have hX4 := (hb4.block _ (blk_lt hX3)).trans hX3
  have hY4 := (hb4.block _ (blk_lt hY3)).trans hY3
  have hB4 := Bthen hB3 hb4
  have Hown := Lib.hid hown
  clear hown hX3 hY3
  unfold secV
  simp only
  go_wp2_with fail
  have hZ5 := heap_alloc_new w4 (.cells #[.int .i64 2, .int .u64 (zl : Int), .int .i64 zs, .int .u64 (zg : Int), .slice A4 zb.length c4] 54)
  have hb5 : Below w4.heap.size w4 (w4.alloc (.cells #[.int .i64 2, .int .u64 (zl : Int), .int .i64 zs, .int .u64 (zg : Int), .slice A4 zb.length c4] 54)) := Bbox _ _
  generalize w4.alloc (.cells #[.int .i64 2, .int .u64 (zl : Int), .int .i64 zs, .int .u64 (zg : Int), .slice A4 zb.length c4] 54) = w5 at hZ5 hb5 ⊢
  have hX5 := (hb5.block _ (blk_lt hX4)).trans hX4
  have hY5 := (hb5.block _ (blk_lt hY4)).trans hY4
  have hB5 := Bthen hB4 hb5
  have hby5 := (BytesAt.own Hown.out).below hb5
  have hca5 := own_cap Hown.out
  have Hby5 := Lib.hid hby5
  have fx := fun v : InS (BelowW w5) => cells3 ((v.h.block _ (blk_lt hX5)).trans hX5)
  have x0 := fun v => (fx v).1
  have x1 := fun v => (fx v).2.1
  have x2 := fun v => (fx v).2.2
  clear fx hX4 hY4 hby5
  have zzb := box_facts (((Bnil w5).block _ (blk_lt hZ5)).trans hZ5); have zz0 := fun x => (zzb x).1; have zz1 := fun x => (zzb x).2.1; have zz2 := fun x => (zzb x).2.2.1; have zz3 := fun x => (zzb x).2.2.2.1; have zz4 := fun x => (zzb x).2.2.2.2; clear zzb
  refine wp_region_in (BelowW w5) [(0, true), (1, true), (2, true), (3, true), (4, true), (5, true), (6, true), (7, true), (8, true), (9, true), (11, true), (10, false), (12, true), (13, true), (14, true), (15, true), (16, true), (17, true), (18, false), (19, false), (20, true), (21, true)] (by kernel_rfl) (by kernel_rfl) (fun _ _ _ _ _ h => h) (inB_drew _) (fun hne => ?_)
  simp only [permOps, List.map_cons, List.map_nil, List.getD_cons_zero, List.getD_cons_succ]
  (repeat ((with_reducible refine wpPerm_F ?_); intro K hK; go_simp; refine hK _ _ ?_; clear hK K))
  (with_reducible refine wpPerm_G ?_); intro K K' hK hK'; go_simp
  refine (Hsu.out _ (by have := Hzl.out; omega)).mono ?_; rintro e w6 ⟨rfl, rfl⟩
  (refine hK _ _ ?_; clear hK hK' K K')
  refine ⟨inB_more (inB_drew _), ?_⟩
  (repeat ((with_reducible refine wpPerm_F ?_); intro K hK; go_simp; refine hK _ _ ?_; clear hK K))
  (with_reducible refine wpPerm_G ?_); intro K K' hK hK'; go_simp
  refine (Hmk.out _).mono ?_; rintro e w7 ⟨A7, c7, rfl, hown7, hb7⟩
  have hV7 : Below w5.heap.size w5 w7 := Bthen (Bdrew (Bnil _)) hb7
  have hsm := NSame_any A4 A7 zb.length (gMark a d l).length c4 c7 zb (gMark a d l) w7 (Hby5.out.below hV7) hca5 (BytesAt.own hown7) (own_cap hown7) (by have := Hzb.out; omega) (by omega)
  rw [show decide (zb = gMark a d l) = true from decide_eq_true Hbb.out] at hsm
  have Hsm := Lib.hid hsm
  clear hsm hown7
  (refine hK _ _ ?_; clear hK hK' K K')
  refine ⟨inB_more hV7, ?_⟩
  (with_reducible refine wpPerm_G ?_); intro K K' hK hK'; go_simp
  refine Hsm.out.mono ?_; rintro e w8 ⟨rfl, hb8⟩
  have hV := Bthen hV7 hb8
  (refine hK _ _ ?_; clear hK hK' K K')
  refine ⟨inB_more hV, ?_⟩
  (repeat ((with_reducible refine wpPerm_F ?_); intro K hK; go_simp; refine hK _ _ ?_; clear hK K))
  refine wpPerm_nil ?_
  clear x0 x1 x2 zz0 zz1 zz2 zz3 zz4
  have hY6 := (hV.block _ (blk_lt hY5)).trans hY5
  have hZ6 := (hV.block _ (blk_lt hZ5)).trans hZ5
  obtain ⟨y0, y1, y2⟩ := cells3 hY6
  have hyf := frozen3 hY6
  obtain ⟨z0, z1, z2, z3, z4, zf⟩ := cells5 hZ6
  go_wp2_with fail
  have hst := set3 hY6 (.int .u64 (zl : Int)) (.int .i64 zs) (.int .u64 (zg : Int))
  generalize ((w8.setCell ⟨w.heap.size + 1, 0, none⟩ (.int .u64 (zl : Int))).setCell ⟨w.heap.size + 1, 1, none⟩ (.int .i64 zs)).setCell ⟨w.heap.size + 1, 2, none⟩ (.int .u64 (zg : Int)) = wz at hst ⊢
  obtain ⟨q1, q2⟩ := hst
  obtain ⟨r0, r1, r2⟩ := cells3 q1
  refine bodyPost_ret (v := .tuple #[.agg #[.int .u64 (zl : Int), .int .i64 zs, .int .u64 (zg : Int)], .bool true, .int .i64 0]) ?_ rfl ⟨rfl, (Bthen hB5 hV).trans (q2.own (by omega) ((Bthen hB5 hV)).size)⟩
  simp [results, Try.results110, go_sem, r0, r1, r2]

end
end Go.Proofs.Ytdjndeleafhglaa
namespace Go.Proofs.Ytdjndeleafhglaa
open Go.RowKit

section
variable {w : World} {x u m q : Nat} {D : DS} {U : List (List UInt8)} {S : Nat → Prop}

theorem SAt_c (a d l p : Int) (h : Duo w x u m D U S) (hp : -9223372036854775808 ≤ p) :
    Calls Try.prog 110 #[.pointer (some ⟨x, 0, none⟩), .pointer (some ⟨u, 0, none⟩), geoV a d l, .int .i64 p] w fun e w' => e = .returned (atV (satD D U a d l p)) ∧ Below w.heap.size w w' := by
  by_cases hs : srightD D a d l = 0
  · by_cases h2 : p = 2 ∨ p = 3
    · have hpp : ((p.toNat : Nat) : Int) = p := Int.toNat_of_nonneg (by omega)
      have := SAt_yes a d l p.toNat h (by omega) hs
      rw [hpp] at this
      exact this
    · have e : satD D U a d l p = (none, 2) := by unfold satD; rw [hs, if_neg (by simp), if_neg h2]
      rw [e]
      exact SAt_no a d l p h hp (.inr h2)
  · have e : satD D U a d l p = (none, 2) := by unfold satD; rw [if_pos hs]
    rw [e]
    exact SAt_no a d l p h hp (.inl hs)

/-- Is it greater than the best? -/
theorem SGreater_any (y : SupV) (fb : Bool) (z : SupV) (xf xb : Nat) (h0 : w.cell? ⟨xf, 0, none⟩ = some (.bool fb)) (h1 : w.cell? ⟨xb, 0, none⟩ = some (.int .u64 (z.life : Int))) (hz : xb < w.heap.size) (hzf : xf < w.heap.size) :
    Calls Try.prog 162 #[supV y, .pointer (some ⟨xf, 0, none⟩), .pointer (some ⟨xb, 0, none⟩)] w fun e w' => e = .returned (.bool (!fb || decide (z.life < y.life))) ∧ Below w.heap.size w w' := by
  cases fb with
  | false =>
    go_enter Try.func162, Try.ntmps162
    go_wp2_with fail
    go_ret
    exact ⟨ret_bool (by simp), Bbox _ _⟩
  | true =>
    go_enter Try.func162, Try.ntmps162
    go_wp2_with fail
    go_ret
    exact ⟨ret_bool (by simp), Bbox _ _⟩

theorem splacesK (k : Nat) (hk : k < 2) (w : World) : (Instr.index 211 (.agg #[.int .i64 2, .int .i64 3]) (.int .i64 (k : Int))).run Try.prog w = .ok (.int .i64 (2 + (k : Int))) w := by
  match k, hk with
  | 0, _ => exact splaces0 w
  | 1, _ => exact splaces1 w

/-- The best of the first k places. -/
def bestK (D : DS) (U : List (List UInt8)) (a d l : Int) : Nat → Option SupV
  | 0 => none
  | k + 1 => bestS (bestK D U a d l k) (satD D U a d l (2 + (k : Int))).1
theorem bestS_left (y : Option SupV) : bestS none y = y := rfl

set_option maxRecDepth 100000 in
set_option maxHeartbeats 1000000 in
theorem SRead_no (a d l : Int) (h : Duo w x u m D U S) (hs : srightD D a d l ≠ 0) :
    Calls Try.prog 97 #[.pointer (some ⟨x, 0, none⟩), .pointer (some ⟨u, 0, none⟩), geoV a d l] w fun e w' => e = .returned (.tuple #[supV supZ, .int .i64 2]) ∧ Below w.heap.size w w' := by
  have hbo := fun W (hW : Below w.heap.size w W) => SBoth_c a d l (h.below hW)
  have hs2 := (sright_cases D a d l).resolve_left hs
  rw [hs2] at hbo
  have hbxs := boxes3z w (.int .i64 a) (.int .i64 d) (.int .i64 l) 23
  have Hbo := Lib.hid hbo; clear hbo
  have Hbx := Lib.hid hbxs; clear hbxs
  clear h hs hs2
  unfold supV supZ
  go_enter Try.func97, Try.ntmps97
  go_wp2_with fail
  go_step3
  go_wp2_with fail
  obtain ⟨hB0, hX0, hY0⟩ := Hbx.out
  generalize (w.alloc (.cells #[.int .i64 a, .int .i64 d, .int .i64 l] 23)).alloc (.cells #[.int .u64 0, .int .i64 0, .int .u64 0] 109) = W0 at hB0 hX0 hY0 ⊢
  refine (Hbo.out _ hB0).mono ?_; rintro e w1 ⟨rfl, hb1⟩
  have hY1 := (hb1.block _ (blk_lt hY0)).trans hY0
  have hB1 := Bthen hB0 hb1
  obtain ⟨y0, y1, y2⟩ := cells3 hY1
  have hyf := frozen3 hY1
  go_wp2_with fail
  have hst := set3 hY1 (.int .u64 0) (.int .i64 0) (.int .u64 0)
  generalize ((w1.setCell ⟨w.heap.size + 1, 0, none⟩ (.int .u64 0)).setCell ⟨w.heap.size + 1, 1, none⟩ (.int .i64 0)).setCell ⟨w.heap.size + 1, 2, none⟩ (.int .u64 0) = wz at hst ⊢
  obtain ⟨q1, q2⟩ := hst
  obtain ⟨r0, r1, r2⟩ := cells3 q1
  rw [Exit.noGoto_ret]
  refine bodyPost_ret (v := .tuple #[.agg #[.int .u64 0, .int .i64 0, .int .u64 0], .int .i64 2]) ?_ rfl ⟨rfl, hB1.trans (q2.own (by omega) hB1.size)⟩
  simp [results, Try.results97, go_sem, r0, r1, r2]

theorem sreadD_at (D : DS) (U : List (List UInt8)) (a d l : Int) (hs : srightD D a d l = 0) (h2 : (satD D U a d l 2).2 = 0) (h3 : (satD D U a d l 3).2 = 0) :
    sreadD D U a d l = match bestK D U a d l 2 with | some x => (x, 0) | none => (supZ, 11) := by
  unfold sreadD
  rw [hs, h2, h3, if_neg (by simp), if_neg (by simp), if_neg (by simp)]
  rfl
theorem sreadD_bad (D : DS) (U : List (List UInt8)) (a d l : Int) (hs : srightD D a d l = 0) (k : Nat) (hk : k < 2) (h : ∀ j : Nat, j < k → (satD D U a d l (2 + (j : Int))).2 = 0) (hb : (satD D U a d l (2 + (k : Int))).2 ≠ 0) :
    sreadD D U a d l = (supZ, (satD D U a d l (2 + (k : Int))).2) := by
  unfold sreadD
  rw [hs, if_neg (by simp)]
  match k, hk with
  | 0, _ =>
    have hb' : (satD D U a d l 2).2 ≠ 0 := hb
    rw [if_pos hb']
    rfl
  | 1, _ =>
    have h0 : (satD D U a d l 2).2 = 0 := h 0 (by decide)
    have hb' : (satD D U a d l 3).2 ≠ 0 := hb
    rw [if_neg (by simp [h0]), if_pos hb']
    rfl

set_option maxRecDepth 100000 in
set_option maxHeartbeats 4000000 in
theorem SRead_yes (a d l : Int) (h : Duo w x u m D U S) (hs : srightD D a d l = 0) :
    Calls Try.prog 97 #[.pointer (some ⟨x, 0, none⟩), .pointer (some ⟨u, 0, none⟩), geoV a d l] w fun e w' => e = .returned (.tuple #[supV (sreadD D U a d l).1, .int .i64 (sreadD D U a d l).2]) ∧ Below w.heap.size w w' := by
  have hbo := fun W (hW : Below w.heap.size w W) => SBoth_c a d l (h.below hW)
  rw [hs] at hbo
  have hbxs := boxes3z w (.int .i64 a) (.int .i64 d) (.int .i64 l) 23
  have hat := fun W (hW : Below w.heap.size w W) (k : Nat) => SAt_c a d l (2 + (k : Int)) (h.below hW) (by omega)
  have hgood := sreadD_at D U a d l hs
  have hbad := sreadD_bad D U a d l hs
  have Hbo := Lib.hid hbo; clear hbo
  have Hbx := Lib.hid hbxs; clear hbxs
  have Hat := Lib.hid hat; clear hat
  have Hgood := Lib.hid hgood; clear hgood
  have Hbad := Lib.hid hbad; clear hbad
  clear h hs
  go_enter Try.func97, Try.ntmps97
  go_wp2_with fail
  go_step3
  go_wp2_with fail
  obtain ⟨hB0, hX0, hY0⟩ := Hbx.out
  generalize (w.alloc (.cells #[.int .i64 a, .int .i64 d, .int .i64 l] 23)).alloc (.cells #[.int .u64 0, .int .i64 0, .int .u64 0] 109) = W0 at hB0 hX0 hY0 ⊢
  refine (Hbo.out _ hB0).mono ?_; rintro e w1 ⟨rfl, hb1⟩
  have hX1 := (hb1.block _ (blk_lt hX0)).trans hX0
  have hY1 := (hb1.block _ (blk_lt hY0)).trans hY0
  have hB1 := Bthen hB0 hb1
  clear hX0 hY0
  go_wp2_with fail
  have hF2 := heap_alloc_new w1 (.cells #[.bool false] 4)
  have hb2 : Below w1.heap.size w1 (w1.alloc (.cells #[.bool false] 4)) := Bbox _ _
  have hz1 := hB1.size
  obtain ⟨F, hF⟩ : ∃ F, F = w1.heap.size := ⟨_, rfl⟩
  rw [← hF] at hF2 ⊢
  generalize w1.alloc (.cells #[.bool false] 4) = w2 at hF2 hb2 ⊢
  have hX2 := (hb2.block _ (blk_lt hX1)).trans hX1
  have hY2 := (hb2.block _ (blk_lt hY1)).trans hY1
  have hB2 := Bthen hB1 hb2
  have hYl := blk_lt hY1
  have hFne : F ≠ w.heap.size + 1 := by omega
  have hFge : w.heap.size + 2 ≤ F := by omega
  clear hX1 hY1 hF
  go_step3
  go_wp2_with fail
  refine (SPlaces_any _).mono ?_; rintro e w3 ⟨rfl, hb3⟩
  have hX3 := (hb3.block _ (blk_lt hX2)).trans hX2
  have hY3 := (hb3.block _ (blk_lt hY2)).trans hY2
  have hF3 := (hb3.block _ (blk_lt hF2)).trans hF2
  have hB3 := Bthen hB2 hb3
  clear hX2 hY2 hF2
  have HX3 := Lib.hid hX3
  have HY3 := Lib.hid hY3
  have HF3 := Lib.hid hF3
  clear hX3 hY3 hF3
  go_wp2_with fail
  go_loopw [26] (fun i wr => ∃ k : Nat, k ≤ 2 ∧ i = .int .i64 k ∧ (∀ j : Nat, j < k → (satD D U a d l (2 + (j : Int))).2 = 0) ∧ wr.heap[w.heap.size]? = some (.cells #[.int .i64 a, .int .i64 d, .int .i64 l] 23 (0, 0)) ∧
    wr.heap[w.heap.size + 1]? = some (.cells #[.int .u64 (((bestK D U a d l k).getD supZ).life : Int), .int .i64 ((bestK D U a d l k).getD supZ).base, .int .u64 (((bestK D U a d l k).getD supZ).gen : Int)] 109 (0, 0)) ∧
    wr.heap[F]? = some (.cells #[.bool (bestK D U a d l k).isSome] 4 (0, 0)) ∧ Below w.heap.size w wr) (fun i _ => 2 - (intOf i).toNat)
  case atStart => exact ⟨0, by omega, rfl, fun j hj => by omega, HX3.out, HY3.out, HF3.out, hB3⟩
  case round =>
    obtain ⟨k, hk, rfl, hok, hX, hY, hF, hB⟩ := hrel
    have Hok := Lib.hid hok; clear hok
    by_cases hlt : k < 2
    · have hk2 : (k : Int) < 2 := by omega
      have hix := splacesK k hlt
      have hst : bestK D U a d l (k + 1) = bestS (bestK D U a d l k) (satD D U a d l (2 + (k : Int))).1 := rfl
      have hatk := fun W hW => Hat.out W hW k
      have hbad := Hbad.out k hlt Hok.out
      unfold atV at hatk
      generalize bestK D U a d l k = bk at *
      generalize hR : satD D U a d l (2 + (k : Int)) = R at *
      obtain ⟨o, f⟩ := R
      simp only at hatk hst hbad
      have Hst := Lib.hid hst; clear hst
      have Hatk := Lib.hid hatk; clear hatk
      have Hbadk := Lib.hid hbad; clear hbad
      have HR := Lib.hid hR; clear hR
      obtain ⟨x0, x1, x2⟩ := cells3 hX
      by_cases hf : f = 0
      case neg =>
        have Hb := Lib.hid (Hbadk.out hf)
        have hal : ∀ v1 : World, ∀ o : SupV, Below v1.heap.size v1 (v1.alloc (.cells #[.int .u64 (o.life : Int), .int .i64 o.base, .int .u64 (o.gen : Int)] 109)) := fun _ _ => Bbox _ _
        generalize o.getD supZ = oz at Hatk
        generalize o.isSome = oi at Hatk
        go_wp2_with fail
        refine (Hatk.out wr hB).mono ?_; rintro e v1 ⟨rfl, hb1⟩
        have hX1 := (hb1.block _ (blk_lt hX)).trans hX
        have hY1 := (hb1.block _ (blk_lt hY)).trans hY
        have hF1 := (hb1.block _ (blk_lt hF)).trans hF
        have hB1 := Bthen hB hb1
        clear x0 x1 x2 hX hY hF
        obtain ⟨y0, y1, y2⟩ := cells3 hY1
        have hyf := frozen3 hY1
        have hYl1 := blk_lt hY1
        have hne : ¬ (w.heap.size + 1 = v1.heap.size) := by omega
        go_wp2_with fail
        have hst := set3 hY1 (.int .u64 0) (.int .i64 0) (.int .u64 0)
        generalize ((v1.setCell ⟨w.heap.size + 1, 0, none⟩ (.int .u64 0)).setCell ⟨w.heap.size + 1, 1, none⟩ (.int .i64 0)).setCell ⟨w.heap.size + 1, 2, none⟩ (.int .u64 0) = wz at hst ⊢
        obtain ⟨q1, q2⟩ := hst
        have hbz : Below wz.heap.size wz (wz.alloc (.cells #[.int .u64 (oz.life : Int), .int .i64 oz.base, .int .u64 (oz.gen : Int)] 109)) := Bbox _ _
        generalize wz.alloc (.cells #[.int .u64 (oz.life : Int), .int .i64 oz.base, .int .u64 (oz.gen : Int)] 109) = wy at hbz ⊢
        obtain ⟨r0, r1, r2⟩ := cells3 ((hbz.block _ (blk_lt q1)).trans q1)
        rw [Exit.noGoto_ret]
        refine bodyPost_ret (v := .tuple #[.agg #[.int .u64 0, .int .i64 0, .int .u64 0], .int .i64 f]) ?_ rfl ⟨by rw [Hb.out]; rfl, Bthen (hB1.trans (q2.own (by omega) hB1.size)) hbz⟩
        simp [results, Try.results97, go_sem, r0, r1, r2]
      subst hf
      cases o with
      | none =>
        go_wp2_with fail
        refine (Hatk.out wr hB).mono ?_; rintro e v1 ⟨rfl, hb1⟩
        have hX1 := (hb1.block _ (blk_lt hX)).trans hX
        have hY1 := (hb1.block _ (blk_lt hY)).trans hY
        have hF1 := (hb1.block _ (blk_lt hF)).trans hF
        have hB1 := Bthen hB hb1
        clear x0 x1 x2 hX hY hF
        simp only [Option.getD_none, Option.isSome_none]
        have hst := Hst.out
        rw [bestS_none] at hst
        have hb2 : Below v1.heap.size v1 (v1.alloc (.cells #[.int .u64 (supZ.life : Int), .int .i64 supZ.base, .int .u64 (supZ.gen : Int)] 109)) := Bbox _ _
        have Hstn := Lib.hid hst
        clear hst
        go_wp2_with fail
        go_roundw
        case rel => exact ⟨k + 1, by omega, by go_num, fun j hj => by
          by_cases h : j < k
          · exact Hok.out j h
          · obtain rfl : j = k := by omega
            rw [HR.out], (hb2.block _ (blk_lt hX1)).trans hX1, by rw [Hstn.out]; exact (hb2.block _ (blk_lt hY1)).trans hY1, by rw [Hstn.out]; exact (hb2.block _ (blk_lt hF1)).trans hF1, Bthen hB1 hb2⟩
        case measure => simp [intOf]; omega
      | some y =>
        go_wp2_with fail
        refine (Hatk.out wr hB).mono ?_; rintro e v1 ⟨rfl, hb1⟩
        have hX1 := (hb1.block _ (blk_lt hX)).trans hX
        have hY1 := (hb1.block _ (blk_lt hY)).trans hY
        have hF1 := (hb1.block _ (blk_lt hF)).trans hF
        have hB1 := Bthen hB hb1
        clear x0 x1 x2 hX hY hF
        simp only [Option.getD_some, Option.isSome_some]
        have hz1 : w.heap.size + 1 < v1.heap.size := blk_lt hY1
        have hz2 : F < v1.heap.size := blk_lt hF1
        have Hb1 := Lib.hid hb1
        clear hb1
        go_wp2_with fail
        have hZ2 := heap_alloc_new v1 (.cells #[.int .u64 (y.life : Int), .int .i64 y.base, .int .u64 (y.gen : Int)] 109)
        have hb2 : Below v1.heap.size v1 (v1.alloc (.cells #[.int .u64 (y.life : Int), .int .i64 y.base, .int .u64 (y.gen : Int)] 109)) := Bbox _ _
        generalize v1.alloc (.cells #[.int .u64 (y.life : Int), .int .i64 y.base, .int .u64 (y.gen : Int)] 109) = v2 at hZ2 hb2 ⊢
        have hX2 := (hb2.block _ (blk_lt hX1)).trans hX1
        have hY2 := (hb2.block _ (blk_lt hY1)).trans hY1
        have hF2 := (hb2.block _ (blk_lt hF1)).trans hF1
        have hB2 := Bthen hB1 hb2
        clear hX1 hY1 hF1
        have hgr := SGreater_any y bk.isSome (bk.getD supZ) F (w.heap.size + 1) (cell_of_one hF2).1 (cells3 hY2).1 (blk_lt hY2) (blk_lt hF2)
        have Hgr := Lib.hid hgr
        clear hgr
        refine Hgr.out.mono ?_; rintro e v3 ⟨rfl, hb3⟩
        have hX3 := (hb3.block _ (blk_lt hX2)).trans hX2
        have hY3 := (hb3.block _ (blk_lt hY2)).trans hY2
        have hF3 := (hb3.block _ (blk_lt hF2)).trans hF2
        have hZ3 := (hb3.block _ (blk_lt hZ2)).trans hZ2
        have hB3 := Bthen hB2 hb3
        clear hX2 hY2 hF2 hZ2
        obtain ⟨z0, z1, z2⟩ := cells3 hZ3
        obtain ⟨y0, y1, y2⟩ := cells3 hY3
        have hyf := frozen3 hY3
        obtain ⟨f0, ff⟩ := cell_of_one hF3
        cases hgt : (!bk.isSome || decide ((bk.getD supZ).life < y.life)) with
        | true =>
          have hst : bestS bk (some y) = some y := by
            cases bk with
            | none => rfl
            | some z =>
              simp only [Option.isSome_some, Bool.not_true, Bool.false_or, Option.getD_some, decide_eq_true_eq] at hgt
              show (if z.life < y.life then some y else some z) = some y
              rw [if_pos hgt]
          have hst2 := Hst.out
          rw [hst] at hst2
          have Hst2 := Lib.hid hst2
          clear hst hst2
          obtain ⟨q1, q2⟩ := set3 hY3 (.int .u64 (y.life : Int)) (.int .i64 y.base) (.int .u64 (y.gen : Int))
          have hXz := (q2.block _ (blk_lt hX3) (by omega)).trans hX3
          have hFz := (q2.block _ (blk_lt hF3) (by omega)).trans hF3
          have hBz := hB3.trans (q2.own (by omega) hB3.size)
          have hX5 := (Below.heap_setCell _ ⟨F, 0, none⟩ (.bool true) _ (show w.heap.size ≠ F by omega)).trans hXz
          have hY5 := (Below.heap_setCell _ ⟨F, 0, none⟩ (.bool true) _ (show w.heap.size + 1 ≠ F by omega)).trans q1
          have hF5 := one_set hFz (.bool true)
          have hB5 := hBz.setCell (p := ⟨F, 0, none⟩) (by simp only; omega) (.bool true)
          have HX5 := Lib.hid hX5
          have HY5 := Lib.hid hY5
          have HF5 := Lib.hid hF5
          have HB5 := Lib.hid hB5
          clear hX5 hY5 hF5 hB5 q1 q2 hXz hFz hBz
          go_wp2_with fail
          go_roundw
          case rel => exact ⟨k + 1, by omega, by go_num, fun j hj => by
            by_cases h : j < k
            · exact Hok.out j h
            · obtain rfl : j = k := by omega
              rw [HR.out], HX5.out, by rw [Hst2.out]; exact HY5.out, by rw [Hst2.out]; exact HF5.out, HB5.out⟩
          case measure => simp [intOf]; omega
        | false =>
          have hst : bestS bk (some y) = bk := by
            cases bk with
            | none => simp at hgt
            | some z =>
              simp only [Option.isSome_some, Bool.not_true, Bool.false_or, Option.getD_some, decide_eq_false_iff_not] at hgt
              show (if z.life < y.life then some y else some z) = some z
              rw [if_neg hgt]
          have hst2 := Hst.out
          rw [hst] at hst2
          have Hst2 := Lib.hid hst2
          clear hst hst2
          go_wp2_with fail
          go_roundw
          case rel => exact ⟨k + 1, by omega, by go_num, fun j hj => by
            by_cases h : j < k
            · exact Hok.out j h
            · obtain rfl : j = k := by omega
              rw [HR.out], hX3, by rw [Hst2.out]; exact hY3, by rw [Hst2.out]; exact hF3, hB3⟩
          case measure => simp [intOf]; omega
    · obtain rfl : k = 2 := by omega
      have hg := Hgood.out (Hok.out 0 (by decide)) (Hok.out 1 (by decide))
      generalize bestK D U a d l 2 = bk at *
      have hyf := frozen3 hY
      obtain ⟨f0, ff⟩ := cell_of_one hF
      obtain ⟨y0, y1, y2⟩ := cells3 hY
      cases bk with
      | none =>
        simp only [Option.getD_none, Option.isSome_none] at y0 y1 y2 f0 hY hg
        have Hg := Lib.hid hg
        clear hg
        have hst := set3 hY (.int .u64 0) (.int .i64 0) (.int .u64 0)
        have Hst := Lib.hid hst
        clear hst
        go_wp2_with fail
        have hst := Hst.out
        generalize ((wr.setCell ⟨w.heap.size + 1, 0, none⟩ (.int .u64 0)).setCell ⟨w.heap.size + 1, 1, none⟩ (.int .i64 0)).setCell ⟨w.heap.size + 1, 2, none⟩ (.int .u64 0) = wz at hst ⊢
        obtain ⟨q1, q2⟩ := hst
        obtain ⟨r0, r1, r2⟩ := cells3 q1
        refine bodyPost_ret (v := .tuple #[.agg #[.int .u64 0, .int .i64 0, .int .u64 0], .int .i64 11]) ?_ rfl ⟨by rw [Hg.out]; rfl, hB.trans (q2.own (by omega) hB.size)⟩
        simp [results, Try.results97, go_sem, r0, r1, r2]
      | some y =>
        simp only [Option.getD_some, Option.isSome_some] at y0 y1 y2 f0 hY hg
        have Hg := Lib.hid hg
        clear hg
        have hst := set3 hY (.int .u64 (y.life : Int)) (.int .i64 y.base) (.int .u64 (y.gen : Int))
        have Hst := Lib.hid hst
        clear hst
        go_wp2_with fail
        have hst := Hst.out
        generalize ((wr.setCell ⟨w.heap.size + 1, 0, none⟩ (.int .u64 (y.life : Int))).setCell ⟨w.heap.size + 1, 1, none⟩ (.int .i64 y.base)).setCell ⟨w.heap.size + 1, 2, none⟩ (.int .u64 (y.gen : Int)) = wz at hst ⊢
        obtain ⟨q1, q2⟩ := hst
        obtain ⟨r0, r1, r2⟩ := cells3 q1
        refine bodyPost_ret (v := .tuple #[.agg #[.int .u64 (y.life : Int), .int .i64 y.base, .int .u64 (y.gen : Int)], .int .i64 0]) ?_ rfl ⟨by rw [Hg.out], hB.trans (q2.own (by omega) hB.size)⟩
        simp [results, Try.results97, go_sem, r0, r1, r2]

theorem SRead_c (a d l : Int) (h : Duo w x u m D U S) :
    Calls Try.prog 97 #[.pointer (some ⟨x, 0, none⟩), .pointer (some ⟨u, 0, none⟩), geoV a d l] w fun e w' => e = .returned (.tuple #[supV (sreadD D U a d l).1, .int .i64 (sreadD D U a d l).2]) ∧ Below w.heap.size w w' := by
  by_cases hs : srightD D a d l = 0
  · exact SRead_yes a d l h hs
  · have e : sreadD D U a d l = (supZ, 2) := by unfold sreadD; rw [if_pos hs]
    rw [e]
    exact SRead_no a d l h hs

end
end Go.Proofs.Ytdjndeleafhglaa
namespace Go.Proofs.Ytdjndeleafhglaa
open Go.RowKit

theorem newSup {D : DS} {a d l : Int} (h : SupOk D a d l) (U : List (List UInt8)) (h2 : D.kept 2 = blankS) (h3 : D.kept 3 = blankS) : sreadD D U a d l = (supZ, 11) := by
  rw [sread_calm h, h2, h3, superB_blank, superB_blank]
  rfl
/-- One that was written where the other place is blank is read. -/
theorem sread_put {D : DS} {a d l : Int} (h : SupOk D a d l) {U V : List (List UInt8)} {x : SupV} (h0 : 0 ≤ x.base) (h1 : x.base ≤ 1073741824) (hl : x.life < 18446744073709551616) (hg : x.gen < 18446744073709551616) (hk : D.kept (splace x.life) = (encU U (splace x.life : Int) (superS a d l x)).1) (ho : D.kept (5 - splace x.life) = blankS)
    (hV : (encU U (splace x.life : Int) (superS a d l x)).2 <+: V) : sreadD D V a d l = (x, 0) :=
  (sread_two h V (superB_kept h0 h1 hl hg hk hV) (y := none) (by rw [ho, superB_blank])).1 rfl

set_option maxRecDepth 100000 in
set_option maxHeartbeats 2000000 in
theorem alive24_any (w : World) : Calls Try.prog 95 #[] w fun e w' => e = .returned (.bool true) ∧ Below w.heap.size w w' := by
  have hok : SupOk (newD 13) 2 1 3 := ⟨Calm.new 13, by decide, by decide⟩
  obtain ⟨D1, hcl, hk1, hok1, hf1⟩ := sclear_calm hok rfl
  have hr1 := newSup hok1 [] (by rw [hk1]; simp) (by rw [hk1]; simp)
  obtain ⟨D2, hwr, hk2, hok2, hf2⟩ := swrite_calm hok1 hf1 [] (x := ⟨3, 1, 2⟩) (by decide) (by decide)
  have hr2 := sread_put hok2 (U := []) (V := (encU [] (splace 3 : Int) (superS 2 1 3 ⟨3, 1, 2⟩)).2) (x := ⟨3, 1, 2⟩) (by decide) (by decide) (by decide) (by decide) (by rw [hk2]; simp) (by rw [hk2, hk1]; rfl) List.prefix_rfl
  have hF1 : Few D1 3 := by
    have h1 := ((Few.new 13).write 2 blankS)
    have h2 := h1.write 3 blankS
    have h3 := h2.flush
    unfold sclearD at hcl
    rw [hok.r, if_neg (by simp)] at hcl
    split at hcl
    · have : (writeD (newD 13) 2 blankS).2 = D1 := by rw [hcl]
      rw [← this]; exact h1.mono (by omega)
    · split at hcl
      · have : (writeD (writeD (newD 13) 2 blankS).2 3 blankS).2 = D1 := by rw [hcl]
        rw [← this]; exact h2.mono (by omega)
      · have : (flushD (writeD (writeD (newD 13) 2 blankS).2 3 blankS).2).2 = D1 := by rw [hcl]
        rw [← this]; exact h3
  have Hcl := Lib.hid hcl; clear hcl
  have Hr1 := Lib.hid hr1; clear hr1
  have Hwr := Lib.hid hwr; clear hwr
  have Hr2 := Lib.hid hr2; clear hr2
  have HF1 := Lib.hid hF1; clear hF1
  clear hok hk1 hok1 hf1 hk2 hok2 hf2
  generalize (encU [] (splace 3 : Int) (superS 2 1 3 ⟨3, 1, 2⟩)).2 = V at *
  go_enter Try.func95, Try.ntmps95
  go_wp2_with fail
  have hB0 : Below w.heap.size w (w.alloc (.cells #[.int .i64 2, .int .i64 1, .int .i64 3] 23)) := Bbox _ _
  have hX0 := heap_alloc_new w (.cells #[.int .i64 2, .int .i64 1, .int .i64 3] 23)
  generalize w.alloc (.cells #[.int .i64 2, .int .i64 1, .int .i64 3] 23) = W at hB0 hX0 ⊢
  refine (New_yes 13 W (by decide) (by decide)).mono ?_; rintro e w1 ⟨rfl, hd1, hb1⟩
  have Hd1 := Lib.hid hd1; clear hd1
  go_wp2_with fail
  refine (Symbolic_at w1).mono ?_; rintro e w2 ⟨u, m, rfl, hs2, hu, hm, hb2⟩
  obtain ⟨S2, hd2, hB2, hS2⟩ := (Rig.made hb1 Hd1.out hs2 hu hm hb2).ex
  have hX2 := (hB2.block _ (blk_lt hX0)).trans hX0
  obtain ⟨x0, x1, x2⟩ := cells3 hX2
  have hq := SClear_c 2 1 3 hd2 (Few.new 13) (by decide)
  rw [Hcl.out] at hq
  have Hq := Lib.hid hq
  clear hq hs2 hd2
  go_wp2_with fail
  refine Hq.out.mono ?_; rintro e w3 ⟨rfl, ht⟩
  obtain ⟨S3, hd3, hB3, hS3⟩ := (Rig.next hB2 hS2 ht).ex
  have hX3 := (hB3.block _ (blk_lt hX0)).trans hX0
  obtain ⟨x0, x1, x2⟩ := cells3 hX3
  have hq := SRead_c 2 1 3 hd3
  rw [Hr1.out] at hq
  have Hq3 := Lib.hid hq
  have Hd3 := Lib.hid hd3
  clear hq hd3 ht Hq
  go_wp2_with fail
  refine Hq3.out.mono ?_; rintro e w4 ⟨rfl, hb4⟩
  have hB4 := Bthen hB3 hb4
  have hX4 := (hB4.block _ (blk_lt hX0)).trans hX0
  obtain ⟨x0, x1, x2⟩ := cells3 hX4
  have hl4 : w.heap.size < w4.heap.size := blk_lt hX4
  unfold supZ
  have hq := fun W2 (hW : Below w3.heap.size w3 W2) => SWrite_c 2 1 3 ⟨3, 1, 2⟩ (Hd3.out.below hW) HF1.out (by decide) (by decide) (by decide)
  rw [Hwr.out] at hq
  have Hq4 := Lib.hid hq
  clear hq
  go_wp2_with fail
  have hb5 : Below w4.heap.size w4 (w4.alloc (.cells #[.int .u64 0, .int .i64 0, .int .u64 0] 109)) := Bbox _ _
  generalize w4.alloc (.cells #[.int .u64 0, .int .i64 0, .int .u64 0] 109) = w5 at hb5 ⊢
  refine (Hq4.out w5 (Bthen hb4 hb5)).mono ?_; rintro e w6 ⟨rfl, ht⟩
  obtain ⟨S6, hd6, hB6, hS6⟩ := (Rig.next (Bthen hB4 hb5) hS3 ht).ex
  have hX6 := (hB6.block _ (blk_lt hX0)).trans hX0
  obtain ⟨x0, x1, x2⟩ := cells3 hX6
  have hq := SRead_c 2 1 3 hd6
  rw [Hr2.out] at hq
  have Hq6 := Lib.hid hq
  clear hq hd6 ht
  go_wp2_with fail
  refine Hq6.out.mono ?_; rintro e w7 ⟨rfl, hb7⟩
  have hB7 := Bthen hB6 hb7
  unfold supV
  go_wp2_with fail
  go_ret
  exact ⟨by first | rfl | simp, Bnew (hB0.trans (hB7.mono hB0.size)) _⟩

end Go.Proofs.Ytdjndeleafhglaa
namespace Go.Proofs.Ytdjndeleafhglaa
open Go.RowKit

theorem made_zero (N : Nat) : madeCells (Value.cells (.int .u8 0)) (N * 1) = (bytesV (List.replicate N 0)).toArray := by
  unfold bytesV
  rw [List.map_replicate]
  apply Array.ext_getElem?
  intro j
  by_cases hj : j < N
  · simp [madeCells, Value.cells, hj, Nat.mod_one]
  · rw [Array.getElem?_eq_none (by simp [madeCells]; omega), Array.getElem?_eq_none (by simp; omega)]
theorem Sec.eq_iff (x y : Sec) : x = y ↔ x.kind = y.kind ∧ x.life = y.life ∧ x.seq = y.seq ∧ x.gen = y.gen ∧ x.body = y.body := by
  cases x; cases y; simp

set_option maxRecDepth 100000 in
set_option maxHeartbeats 4000000 in
theorem R18Same_any (x y : Sec) (A B : Option Addr) (ca cb : Nat) (w : World) (ha : BytesAt w A x.body.length x.body) (hb : BytesAt w B y.body.length y.body) (hn : x.body.length ≤ 1000000) :
    Calls Try.prog 64 #[secV x A ca, secV y B cb] w fun e w' => e = .returned (.bool (decide (x = y))) ∧ Below w.heap.size w w' := by
  have hy : decide (x = y) = (decide (x.kind = y.kind) && (decide (x.life = y.life) && (decide (x.seq = y.seq) && (decide (x.gen = y.gen) && decide (x.body = y.body))))) := by
    rw [Bool.eq_iff_iff]; simp [Sec.eq_iff]
  rw [hy]
  obtain ⟨k, l, q, g, b⟩ := x
  obtain ⟨k', l', q', g', b'⟩ := y
  unfold secV
  simp only at *
  clear hy
  have Ha := Lib.hid ha; clear ha
  have Hb := Lib.hid hb; clear hb
  by_cases h1 : k = k'
  case neg =>
    go_enter Try.func64, Try.ntmps64
    go_wp2_with fail
    go_ret
    exact ⟨ret_bool (by simp [h1]), by ((repeat (first | (with_reducible exact Bnil _) | (with_reducible assumption) | (with_reducible refine Bset ?_ ?_ _) | (with_reducible refine Bnew ?_ _) | (with_reducible refine Bdrew ?_) | (with_reducible refine Bthen ?_ (by assumption)))); all_goals (simp; try omega))⟩
  subst h1
  by_cases h2 : l = l'
  case neg =>
    have h2' : ¬ (l : Int) = (l' : Int) := by omega
    go_enter Try.func64, Try.ntmps64
    go_wp2_with fail
    go_ret
    exact ⟨ret_bool (by simp [h2]), by ((repeat (first | (with_reducible exact Bnil _) | (with_reducible assumption) | (with_reducible refine Bset ?_ ?_ _) | (with_reducible refine Bnew ?_ _) | (with_reducible refine Bdrew ?_) | (with_reducible refine Bthen ?_ (by assumption)))); all_goals (simp; try omega))⟩
  subst h2
  by_cases h3 : q = q'
  case neg =>
    go_enter Try.func64, Try.ntmps64
    go_wp2_with fail
    go_ret
    exact ⟨ret_bool (by simp [h3]), by ((repeat (first | (with_reducible exact Bnil _) | (with_reducible assumption) | (with_reducible refine Bset ?_ ?_ _) | (with_reducible refine Bnew ?_ _) | (with_reducible refine Bdrew ?_) | (with_reducible refine Bthen ?_ (by assumption)))); all_goals (simp; try omega))⟩
  subst h3
  by_cases h4 : g = g'
  case neg =>
    have h4' : ¬ (g : Int) = (g' : Int) := by omega
    go_enter Try.func64, Try.ntmps64
    go_wp2_with fail
    go_ret
    exact ⟨ret_bool (by simp [h4]), by ((repeat (first | (with_reducible exact Bnil _) | (with_reducible assumption) | (with_reducible refine Bset ?_ ?_ _) | (with_reducible refine Bnew ?_ _) | (with_reducible refine Bdrew ?_) | (with_reducible refine Bthen ?_ (by assumption)))); all_goals (simp; try omega))⟩
  subst h4
  have hbx : Below w.heap.size w ((w.alloc (.cells #[.int .i64 k, .int .u64 (l : Int), .int .i64 q, .int .u64 (g : Int), .slice A b.length ca] 60)).alloc (.cells #[.int .i64 k, .int .u64 (l : Int), .int .i64 q, .int .u64 (g : Int), .slice B b'.length cb] 60)) := Bnew (Bbox _ _) _
  have Ha2 := Lib.hid (Ha.out.below hbx)
  have Hb2 := Lib.hid (Hb.out.below hbx)
  have Hbx := Lib.hid hbx; clear hbx
  go_enter Try.func64, Try.ntmps64
  go_wp2_with fail
  refine (Same_any A B b.length b'.length ca cb b b' _ Ha2.out Hb2.out hn).mono ?_
  rintro e w1 ⟨rfl, hb1⟩
  go_wp2_with fail
  go_ret
  exact ⟨ret_bool (by simp), Bthen Hbx.out hb1⟩

set_option maxRecDepth 100000 in
set_option maxHeartbeats 1000000 in
theorem R18Blank_any (A : Option Addr) (n c : Nat) (l : List UInt8) (w : World) (ha : BytesAt w A n l) (hn : n ≤ 1000000) :
    Calls Try.prog 61 #[.slice A n c] w fun e w' => e = .returned (.bool (decide (l = blankS))) ∧ w = w' := by
  have hl := ha.len
  have Ha := Lib.hid ha; clear ha
  have Hl := Lib.hid hl; clear hl
  go_enter Try.func61, Try.ntmps61
  go_wp2_with fail
  go_loop [3] (fun i => ∃ k : Nat, k ≤ n ∧ i = .int .i64 k ∧ ∀ j, j < k → l[j]? = some 0) (fun i => n - (intOf i).toNat)
  case atStart => exact ⟨0, by omega, rfl, fun j hj => by omega⟩
  case round =>
    obtain ⟨k, hk, rfl, hz⟩ := hrel
    by_cases hlt : k < n
    · obtain ⟨g, o, rfl, hr⟩ := Ha.out.at_ (by omega)
      obtain ⟨x, hx⟩ : ∃ x, l[k]? = some x := ⟨_, List.getElem?_eq_getElem (by rw [Hl.out]; exact hlt)⟩
      have hxa := hr k (.int .u8 (x.toNat : Int)) (by simp [bytesV, hx])
      have hkn : (k : Int) < (n : Int) := by omega
      have Hx := Lib.hid hx; clear hx hr
      have Hz := Lib.hid hz; clear hz
      by_cases h0 : x = 0
      · subst h0
        go_wp2_with fail
        exact ⟨⟨k + 1, by omega, by go_num, fun j hj => by
          by_cases h : j < k
          · exact Hz.out j h
          · obtain rfl : j = k := by omega
            exact Hx.out⟩, by simp [intOf]; omega⟩
      · have h1 : ¬ x.toNat = 0 := fun h => h0 (UInt8.toNat_inj.1 h)
        have h1' : ¬ (x.toNat : Int) = 0 := by omega
        go_wp2_with fail
        go_ret
        refine ⟨ret_bool ?_, rfl⟩
        symm
        rw [decide_eq_false_iff_not]
        intro e
        have h2 := Hx.out
        rw [e] at h2
        unfold blankS at h2
        rw [List.getElem?_replicate] at h2
        split at h2
        · exact h0 (Option.some.inj h2).symm
        · cases h2
    · obtain rfl : k = n := by omega
      have hkn : ¬ (k : Int) < (k : Int) := by omega
      have Hz := Lib.hid hz; clear hz
      by_cases h5 : k = 512
      · have h5' : (k : Int) = 512 := by omega
        go_wp2_with fail
        go_ret
        refine ⟨ret_bool ?_, rfl⟩
        symm
        rw [decide_eq_true_eq]
        apply List.ext_getElem?
        intro j
        unfold blankS
        by_cases hj : j < k
        · rw [Hz.out j hj, List.getElem?_replicate, if_pos (by omega)]
        · rw [List.getElem?_eq_none (by rw [Hl.out]; omega), List.getElem?_eq_none (by simp; omega)]
      · have h5' : ¬ (k : Int) = 512 := by omega
        go_wp2_with fail
        go_ret
        refine ⟨ret_bool ?_, rfl⟩
        symm
        rw [show ((k : Int) == 512) = false by simpa using h5', decide_eq_false_iff_not]
        intro e
        apply h5
        rw [← Hl.out, e]
        exact List.length_replicate

end Go.Proofs.Ytdjndeleafhglaa
namespace Go.Proofs.Ytdjndeleafhglaa
open Go.RowKit

set_option maxRecDepth 100000 in
theorem RMark24_any (a d l : Int) (w : World) : Calls Try.prog 94 #[geoV a d l] w fun e w' => ∃ A c, e = .returned (.slice A (gMark a d l).length c) ∧ w'.ownsRow w.heap.size 5 1 (.slice A (gMark a d l).length c) (gMark a d l).length (bytesV (gMark a d l)) ∧ Below w.heap.size w w' := by
  have hrt := fun W => RRight_any a d l W
  have Hrt := Lib.hid hrt; clear hrt
  cases hr : gRight a d l with
  | false =>
    rw [hr] at Hrt
    have hm : gMark a d l = [] := by unfold gMark; rw [if_neg (by simp [hr])]
    rw [hm]
    go_enter Try.func94, Try.ntmps94
    go_wp2_with fail
    refine (Hrt.out _).mono ?_; rintro e w1 ⟨rfl, hb1⟩
    go_wp2_with fail
    go_ret
    exact ⟨none, 0, rfl, World.ownsRow_nil _ _ _ _, Bthen (Bbox _ _) hb1⟩
  | true =>
    rw [hr] at Hrt
    have hm := mark_bytes hr
    have hl : (gMark a d l).length = 3 := by unfold gMark; rw [if_pos hr]; rfl
    obtain ⟨h1, h2, h3, h4, h5, h6⟩ := gRight_iff.1 hr
    rw [hl]
    have Hm := Lib.hid hm; clear hm
    have Hl := Lib.hid hl; clear hl
    go_enter Try.func94, Try.ntmps94
    go_wp2_with fail
    have hB0 : Below w.heap.size w (w.alloc (.cells #[.int .i64 a, .int .i64 d, .int .i64 l] 23)) := Bbox _ _
    have hn0 := heap_alloc_new w (.cells #[.int .i64 a, .int .i64 d, .int .i64 l] 23)
    generalize w.alloc (.cells #[.int .i64 a, .int .i64 d, .int .i64 l] 23) = W0 at hB0 hn0 ⊢
    refine (Hrt.out _).mono ?_; rintro e w1 ⟨rfl, hb1⟩
    obtain ⟨c0, c1, c2⟩ := cells3 ((hb1.block _ (blk_lt hn0)).trans hn0)
    have hz := (Bthen hB0 hb1).size
    go_wp2_with fail
    go_ret
    refine ⟨_, _, rfl, own_of_block 3 Hl.out ?_ hz (by decide), Bnew (Bthen hB0 hb1) _⟩
    rw [Hm.out]
    exact heap_alloc_new _ _

theorem own_ge {w : World} {base n : Nat} {A : Option Addr} {c : Nat} {e : TypeId} {size : Nat} {xs : List Value} (h : w.ownsRow base e size (.slice A n c) n xs) (hn : 0 < n) : ∀ g o, A = some ⟨g, o, none⟩ → base ≤ g := fun g o hA => by
  rcases h.2 with ⟨he, rfl⟩ | ⟨g', cap, _, he, hb, _⟩
  · omega
  · cases he; cases hA; exact hb
theorem set5 {w : World} {g : Nat} {a0 a1 a2 a3 a4 : Value} {t : TypeId} (h : w.heap[g]? = some (.cells #[a0, a1, a2, a3, a4] t (0, 0))) (b0 b1 b2 b3 b4 : Value) :
    (((((w.setCell ⟨g, 0, none⟩ b0).setCell ⟨g, 1, none⟩ b1).setCell ⟨g, 2, none⟩ b2).setCell ⟨g, 3, none⟩ b3).setCell ⟨g, 4, none⟩ b4).heap[g]? = some (.cells #[b0, b1, b2, b3, b4] t (0, 0)) ∧ Frame (fun k => k = g) w (((((w.setCell ⟨g, 0, none⟩ b0).setCell ⟨g, 1, none⟩ b1).setCell ⟨g, 2, none⟩ b2).setCell ⟨g, 3, none⟩ b3).setCell ⟨g, 4, none⟩ b4) := by
  constructor
  · have := blk_set (blk_set (blk_set (blk_set (blk_set h 0 b0) 1 b1) 2 b2) 3 b3) 4 b4
    simpa using this
  · exact ((((((Frame.refl (fun k => k = g) w).setCell (.inl rfl) b0).setCell (.inl rfl) b1).setCell (.inl rfl) b2).setCell (.inl rfl) b3).setCell (.inl rfl) b4)

theorem RPlace24_any (life : Nat) (h : life < 18446744073709551616) (w : World) : Calls Try.prog 96 #[.int .u64 (life : Int)] w fun e w' => e = .returned (.int .i64 (splace life : Int)) ∧ w = w' := by
  have e1 : Int.tmod (life : Int) 2 = ((life % 2 : Nat) : Int) := by rw [Int.tmod_eq_emod_of_nonneg (by omega)]; omega
  go_enter Try.func96, Try.ntmps96
  go_wp2_with fail
  go_ret
  exact ⟨ret_int (by unfold splace; omega), rfl⟩

set_option maxRecDepth 100000 in
set_option maxHeartbeats 1000000 in
theorem RSector24_any (a d l : Int) (x : SupV) (w : World) : Calls Try.prog 98 #[geoV a d l, supV x] w fun e w' => ∃ A c, e = .returned (secV (superS a d l x) A c) ∧ BytesAt w' A (gMark a d l).length (gMark a d l) ∧ (gMark a d l).length ≤ c ∧ Below w.heap.size w w' := by
  have hbx := boxes33 w (.int .i64 a) (.int .i64 d) (.int .i64 l) (.int .u64 (x.life : Int)) (.int .i64 x.base) (.int .u64 (x.gen : Int)) 23 107
  have Hbx := Lib.hid hbx; clear hbx
  have hmk := fun W => RMark24_any a d l W
  have Hmk := Lib.hid hmk; clear hmk
  unfold supV secV
  simp only [superS]
  obtain ⟨xl, xb, xg⟩ := x
  simp only at *
  go_enter Try.func98, Try.ntmps98
  go_wp2_with fail
  obtain ⟨hB0, hX0, hY0⟩ := Hbx.out
  have hs0 : ((w.alloc (.cells #[.int .i64 a, .int .i64 d, .int .i64 l] 23)).alloc (.cells #[.int .u64 (xl : Int), .int .i64 xb, .int .u64 (xg : Int)] 107)).heap.size = w.heap.size + 1 + 1 := by simp
  generalize (w.alloc (.cells #[.int .i64 a, .int .i64 d, .int .i64 l] 23)).alloc (.cells #[.int .u64 (xl : Int), .int .i64 xb, .int .u64 (xg : Int)] 107) = W0 at hB0 hX0 hY0 hs0 ⊢
  have hZ1 := heap_alloc_new W0 (.cells #[.int .i64 0, .int .u64 0, .int .i64 0, .int .u64 0, .slice none 0 0] 60)
  have hX1 := (Below.heap_alloc W0 (.cells #[.int .i64 0, .int .u64 0, .int .i64 0, .int .u64 0, .slice none 0 0] 60) _ (blk_lt hX0)).trans hX0
  have hY1 := (Below.heap_alloc W0 (.cells #[.int .i64 0, .int .u64 0, .int .i64 0, .int .u64 0, .slice none 0 0] 60) _ (blk_lt hY0)).trans hY0
  have hB1 : Below w.heap.size w (W0.alloc (.cells #[.int .i64 0, .int .u64 0, .int .i64 0, .int .u64 0, .slice none 0 0] 60)) := Bnew hB0 _
  rw [hs0] at hZ1
  generalize W0.alloc (.cells #[.int .i64 0, .int .u64 0, .int .i64 0, .int .u64 0, .slice none 0 0] 60) = W at hX1 hY1 hZ1 hB1 ⊢
  have fx := fun v : InS (BelowW W) => cells3 ((v.h.block _ (blk_lt hX1)).trans hX1)
  have x0 := fun v => (fx v).1
  have x1 := fun v => (fx v).2.1
  have x2 := fun v => (fx v).2.2
  have fy := fun v : InS (BelowW W) => cells3 ((v.h.block _ (blk_lt hY1)).trans hY1)
  have y0 := fun v => (fy v).1
  have y1 := fun v => (fy v).2.1
  have y2 := fun v => (fy v).2.2
  clear fx fy hX0 hY0 hX1 hY1
  refine wp_region_in (BelowW W) [(0, true), (1, true), (2, true), (3, true), (4, true), (5, true), (6, true), (7, false), (8, true), (9, false)] (by kernel_rfl) (by kernel_rfl) (fun _ _ _ _ _ h => h) (inB_drew _) (fun hne => ?_)
  simp only [permOps, List.map_cons, List.map_nil, List.getD_cons_zero, List.getD_cons_succ]
  (repeat ((with_reducible refine wpPerm_F ?_); intro K hK; go_simp; refine hK _ _ ?_; clear hK K))
  (with_reducible refine wpPerm_E rfl ?_); intro K hK
  go_simp
  refine (Hmk.out _).mono ?_; rintro e w1 ⟨A, c, rfl, hown, hb1⟩
  have hV : Below W.heap.size W w1 := Bthen (Bdrew (Bnil _)) hb1
  (refine hK _ _ ?_; clear hK K)
  refine ⟨inB_more hV, ?_⟩
  (repeat ((with_reducible refine wpPerm_F ?_); intro K hK; go_simp; refine hK _ _ ?_; clear hK K))
  clear x0 x1 x2 y0 y1 y2
  have hZ2 := (hV.block _ (blk_lt hZ1)).trans hZ1
  have hzf := frozen3 hZ2
  have hzl := blk_lt hZ2
  have hA := BytesAt.own hown
  have hca := own_cap hown
  have hAf : BytesAt w1 A (gMark a d l).length (gMark a d l) ∧ (0 < (gMark a d l).length → ∀ g o, A = some ⟨g, o, none⟩ → g ≠ w.heap.size + 1 + 1) := ⟨hA, fun h0 g o e => by
    have h1 := own_ge hown h0 g o e
    have h2 := blk_lt hZ1
    have h3 : W.drew.heap.size = W.heap.size := rfl
    omega⟩
  clear hown hA
  obtain ⟨z0, z1, z2, z3, z4, z5⟩ := cells5 hZ2
  (with_reducible refine wpPerm_L rfl ?_); intro K hK
  go_simp
  have hst := set5 hZ2 (.int .i64 2) (.int .u64 (xl : Int)) (.int .i64 xb) (.int .u64 (xg : Int)) (.slice A (gMark a d l).length c)
  generalize ((((w1.setCell ⟨w.heap.size + 1 + 1, 0, none⟩ (.int .i64 2)).setCell ⟨w.heap.size + 1 + 1, 1, none⟩ (.int .u64 (xl : Int))).setCell ⟨w.heap.size + 1 + 1, 2, none⟩ (.int .i64 xb)).setCell ⟨w.heap.size + 1 + 1, 3, none⟩ (.int .u64 (xg : Int))).setCell ⟨w.heap.size + 1 + 1, 4, none⟩ (.slice A (gMark a d l).length c) = wz at hst ⊢
  obtain ⟨q1, q2⟩ := hst
  obtain ⟨r0, r1, r2, r3, r4, r5⟩ := cells5 q1
  (refine hK _ _ ?_; clear hK K)
  go_wp2_with fail
  refine bodyPost_ret (v := .agg #[.int .i64 2, .int .u64 (xl : Int), .int .i64 xb, .int .u64 (xg : Int), .slice A (gMark a d l).length c]) ?_ rfl ⟨A, c, rfl, hAf.1.frame q2 hAf.2, hca, (Bthen hB1 hV).trans (q2.own (by omega) ((Bthen hB1 hV)).size)⟩
  simp [results, Try.results98, go_sem, r0, r1, r2, r3, r4]

end Go.Proofs.Ytdjndeleafhglaa
namespace Go.Proofs.Ytdjndeleafhglaa
open Go.RowKit

set_option maxRecDepth 100000 in
set_option maxHeartbeats 1000000 in
theorem SuperWrites_no (a d l : Int) (x : SupV) (w : World) (h : gRight a d l = false ∨ x.base < 0 ∨ 1073741824 < x.base) (hlx : x.life < 18446744073709551616) :
    Calls Try.prog 15 #[geoV a d l, supV x] w fun e w' => e = .returned (.bool true) ∧ Below w.heap.size w w' := by
  have hal := fun W => alive24_any W
  have Hal := Lib.hid hal; clear hal
  have hsq := fun W => RSize_any a d l W
  have hrt := fun W => RRight_any a d l W
  have Hrt := Lib.hid hrt; clear hrt
  have hbx := boxes33 w (.int .i64 a) (.int .i64 d) (.int .i64 l) (.int .u64 (x.life : Int)) (.int .i64 x.base) (.int .u64 (x.gen : Int)) 23 107
  have Hbx := Lib.hid hbx; clear hbx
  have hmx : ∃ n : Nat, max (gSize a d l) 1 = (n : Int) ∧ 1 ≤ n ∧ n ≤ 1024 := by
    have h3 := gSize_bd a d l
    refine ⟨(max (gSize a d l) 1).toNat, ?_, ?_, ?_⟩ <;> omega
  obtain ⟨n, hmx, hn1, hn2⟩ := hmx
  have hsw := fun (D : DS) U => swrite_bad (D := D) (U := U) h
  have Hsw := Lib.hid hsw; clear hsw
  have Hsq := Lib.hid hsq; clear hsq
  unfold supV at *
  obtain ⟨xl, xb, xg⟩ := x
  simp only at *
  have H := Lib.hid h; clear h
  generalize gSize a d l = sz at *
  go_enter Try.func15, Try.ntmps15
  go_wp2_with fail
  obtain ⟨hB0, hX0, hY0⟩ := Hbx.out
  generalize (w.alloc (.cells #[.int .i64 a, .int .i64 d, .int .i64 l] 23)).alloc (.cells #[.int .u64 (xl : Int), .int .i64 xb, .int .u64 (xg : Int)] 107) = W0 at hB0 hX0 hY0 ⊢
  obtain ⟨x0, x1, x2⟩ := cells3 hX0
  go_wp2_with fail
  refine (Hsq.out _).mono ?_; rintro e W ⟨rfl, hbW⟩
  have hXW := (hbW.block _ (blk_lt hX0)).trans hX0
  have hYW := (hbW.block _ (blk_lt hY0)).trans hY0
  have hBW := Bthen hB0 hbW
  clear hX0 hY0 x0 x1 x2
  have HXW := Lib.hid hXW
  have HYW := Lib.hid hYW
  clear hXW hYW
  have cx := fun (w' : World) (hb : Below W.heap.size W w') => cells3 ((hb.block _ (blk_lt HXW.out)).trans HXW.out)
  have cy := fun (w' : World) (hb : Below W.heap.size W w') => cells3 ((hb.block _ (blk_lt HYW.out)).trans HYW.out)
  have Hcx := Lib.hid cx
  have Hcy := Lib.hid cy
  clear cx cy
  go_wp2_with fail
  refine (New_yes n W hn1 hn2).mono ?_; rintro e w1 ⟨rfl, hd1, hb1⟩
  have Hd1 := Lib.hid hd1; clear hd1
  go_wp2_with fail
  refine (Symbolic_at w1).mono ?_; rintro e w2 ⟨u, m, rfl, hs2, hu, hm, hb2⟩
  obtain ⟨S2, hd2, hB2, hS2⟩ := (Rig.made hb1 Hd1.out hs2 hu hm hb2).ex
  obtain ⟨x0, x1, x2⟩ := Hcx.out w2 hB2
  obtain ⟨y0, y1, y2⟩ := Hcy.out w2 hB2
  have hq := SWrite_c a d l ⟨xl, xb, xg⟩ hd2 (Few.new n) (by decide) (by decide) (by simp only; omega)
  rw [Hsw.out] at hq
  have Hq := Lib.hid hq
  clear hq hs2 hd2
  go_wp2_with fail
  refine Hq.out.mono ?_; rintro e w3 ⟨rfl, ht⟩
  obtain ⟨S3, hd3, hB3, hS3⟩ := (Rig.next hB2 hS2 ht).ex
  clear hd3 ht Hq x0 x1 x2 y0 y1 y2 hS2 hS3
  go_wp2_with fail
  have x0 := fun v : InS (BelowW w3) => (Hcx.out v.w (Bthen hB3 v.h)).1
  have x1 := fun v : InS (BelowW w3) => (Hcx.out v.w (Bthen hB3 v.h)).2.1
  have x2 := fun v : InS (BelowW w3) => (Hcx.out v.w (Bthen hB3 v.h)).2.2
  have y0 := fun v : InS (BelowW w3) => (Hcy.out v.w (Bthen hB3 v.h)).1
  have y1 := fun v : InS (BelowW w3) => (Hcy.out v.w (Bthen hB3 v.h)).2.1
  have y2 := fun v : InS (BelowW w3) => (Hcy.out v.w (Bthen hB3 v.h)).2.2
  refine wp_region_in (BelowW w3) [(0, true), (2, true), (1, false), (3, false), (4, false), (5, true), (6, true), (7, true), (8, true), (9, true), (10, false), (11, true), (12, true), (13, true), (14, true), (15, true), (16, true), (17, false), (18, true), (19, true)] (by kernel_rfl) (by kernel_rfl) (fun _ _ _ _ _ h => h) (inB_drew _) (fun hne => ?_)
  simp only [permOps, List.map_cons, List.map_nil, List.getD_cons_zero, List.getD_cons_succ]
  (repeat ((with_reducible refine wpPerm_F ?_); intro K hK; go_simp; refine hK _ _ ?_; clear hK K))
  (with_reducible refine wpPerm_E rfl ?_); intro K hK
  go_simp
  refine (SMark_any a d l _).mono ?_; rintro e w4 ⟨A4, c4, rfl, ho4, hb4⟩
  have hV4 : Below w3.heap.size w3 w4 := Bthen (Bdrew (Bnil _)) hb4
  have hy4 := BytesAt.own ho4
  clear ho4
  (refine hK _ _ ?_; clear hK K)
  refine ⟨inB_more hV4, ?_⟩
  (with_reducible refine wpPerm_E rfl ?_); intro K hK
  go_simp
  refine (RMark24_any a d l _).mono ?_; rintro e w5 ⟨A5, c5, rfl, ho5, hb5⟩
  have hV5 : Below w3.heap.size w3 w5 := Bthen hV4 hb5
  have hsm := Same_any A4 A5 _ _ c4 c5 _ _ w5 (hy4.below hb5) (BytesAt.own ho5) (by have := gMark_len a d l; omega)
  rw [show decide (gMark a d l = gMark a d l) = true by simp] at hsm
  have Hsm := Lib.hid hsm
  clear ho5 hsm hy4
  (refine hK _ _ ?_; clear hK K)
  refine ⟨inB_more hV5, ?_⟩
  (with_reducible refine wpPerm_E rfl ?_); intro K hK
  go_simp
  refine Hsm.out.mono ?_; rintro e w6 ⟨rfl, hb6⟩
  have hV6 : Below w3.heap.size w3 w6 := Bthen hV5 hb6
  (refine hK _ _ ?_; clear hK K)
  refine ⟨inB_more hV6, ?_⟩
  (repeat ((with_reducible refine wpPerm_F ?_); intro K hK; go_simp; refine hK _ _ ?_; clear hK K))
  (with_reducible refine wpPerm_G ?_); intro K K' hK hK'; go_simp
  refine (SWrite_nil a d l ⟨xl, xb, xg⟩ u _).mono ?_; rintro e w7 ⟨rfl, hb7⟩
  have hV7 : Below w3.heap.size w3 w7 := Bthen hV6 hb7
  (refine hK _ _ ?_; clear hK hK' K K')
  refine ⟨inB_more hV7, ?_⟩
  (repeat ((with_reducible refine wpPerm_F ?_); intro K hK; go_simp; refine hK _ _ ?_; clear hK K))
  (with_reducible refine wpPerm_G ?_); intro K K' hK hK'; go_simp
  refine (SWrite_bare a d l ⟨xl, xb, xg⟩ _ _).mono ?_; rintro e w8 ⟨rfl, hb8⟩
  have hV8 : Below w3.heap.size w3 w8 := Bthen hV7 hb8
  (refine hK _ _ ?_; clear hK hK' K K')
  refine ⟨inB_more hV8, ?_⟩
  (repeat ((with_reducible refine wpPerm_F ?_); intro K hK; go_simp; refine hK _ _ ?_; clear hK K))
  refine wpPerm_nil ?_
  clear x0 x1 x2 y0 y1 y2
  have hB8 := Bthen hB3 hV8
  obtain ⟨x0, x1, x2⟩ := Hcx.out w8 hB8
  go_wp2_with fail
  refine (Hrt.out _).mono ?_; rintro e w9 ⟨rfl, hb9⟩
  have hB9 := Bthen hB8 hb9
  obtain ⟨y0, y1, y2⟩ := Hcy.out w9 hB9
  cases hr : gRight a d l with
  | false =>
    clear y0 y1 y2
    go_wp2_with fail
    refine (Hal.out _).mono ?_; rintro e w10 ⟨rfl, hb10⟩
    go_wp2_with fail
    go_ret
    exact ⟨rfl, hBW.trans ((Bthen hB9 hb10).mono hBW.size)⟩
  | true =>
    by_cases k1 : xb < 0
    · go_wp2_with fail
      refine (Hal.out _).mono ?_; rintro e w10 ⟨rfl, hb10⟩
      go_wp2_with fail
      go_ret
      exact ⟨rfl, hBW.trans ((Bthen hB9 hb10).mono hBW.size)⟩
    · have k2 : (1073741824 : Int) < xb := by
        rcases H.out with h | h | h
        · rw [hr] at h; cases h
        · exact absurd h k1
        · exact h
      go_wp2_with fail
      refine (Hal.out _).mono ?_; rintro e w10 ⟨rfl, hb10⟩
      go_wp2_with fail
      go_ret
      exact ⟨rfl, hBW.trans ((Bthen hB9 hb10).mono hBW.size)⟩

set_option maxRecDepth 100000 in
set_option maxHeartbeats 2000000 in
theorem SuperWrites_yes (a d l : Int) (x : SupV) (w : World) (hr : gRight a d l = true) (h0 : 0 ≤ x.base) (h1 : x.base ≤ 1073741824) (hlx : x.life < 18446744073709551616) (hg : x.gen < 18446744073709551616) :
    Calls Try.prog 15 #[geoV a d l, supV x] w fun e w' => e = .returned (.bool true) ∧ Below w.heap.size w w' := by
  have hal := fun W => alive24_any W
  have Hal := Lib.hid hal; clear hal
  have hsz := gSize_ge hr
  have hok := SupOk.new hr
  obtain ⟨D1, hw1, hk1, hok1, hf1⟩ := swrite_calm hok rfl [] (x := x) h0 h1
  have hF1 := swriteD_few (Few.new (gSize a d l).toNat) [] a d l x
  rw [hw1] at hF1
  obtain ⟨D2, hcl, hk2, hok2, hf2⟩ := sclear_calm hok1 hf1
  have hpc := splace_cases x.life
  have hkp : D1.kept (splace x.life) = (encU [] (splace x.life : Int) (superS a d l x)).1 := by rw [hk1]; simp
  have hko : D1.kept (5 - splace x.life) = blankS := by rw [hk1]; simp only; rw [if_neg (by omega)]; rfl
  have hpl := hok1.at x.life
  have hn2' := hok2.n
  have hd2k : D2.kept 2 = blankS := by rw [hk2]; simp
  have hd3k : D2.kept 3 = blankS := by rw [hk2]; simp
  have hrd := sread_put hok1 (V := (encU [] (splace x.life : Int) (superS a d l x)).2) h0 h1 hlx hg hkp hko List.prefix_rfl
  have hdec : decU (encU [] (splace x.life : Int) (superS a d l x)).2 (splace x.life : Int) (encU [] (splace x.life : Int) (superS a d l x)).1 = (0, superS a d l x) := decU_enc (superS_right h0 h1) (by simpa [superS] using hlx) (by simpa [superS] using hg) List.prefix_rfl
  have hbx := boxes33 w (.int .i64 a) (.int .i64 d) (.int .i64 l) (.int .u64 (x.life : Int)) (.int .i64 x.base) (.int .u64 (x.gen : Int)) 23 107
  have hrt := fun W => RRight_any a d l W
  rw [hr] at hrt
  have hsq := fun W => RSize_any a d l W
  obtain ⟨n, hn⟩ : ∃ n : Nat, gSize a d l = (n : Int) := ⟨(gSize a d l).toNat, by omega⟩
  rw [hn, Int.toNat_natCast] at hw1
  rw [hn] at hsq
  have hn1 : 1 ≤ n := by omega
  have hn2 : n ≤ 1024 := by omega
  have hmx : max (n : Int) 1 = (n : Int) := by omega
  have hpp := fun W => RPlace24_any x.life hlx W
  have hsec := fun W => RSector24_any a d l x W
  have hgl := gMark_len a d l
  have Hpp := Lib.hid hpp
  have Hsec := Lib.hid hsec
  have Hbx := Lib.hid hbx
  have Hrt := Lib.hid hrt
  have Hsq := Lib.hid hsq
  have Hw1 := Lib.hid hw1
  have Hrd := Lib.hid hrd
  have HF1 := Lib.hid hF1
  have Hcl := Lib.hid hcl
  have Hdec := Lib.hid hdec
  have Hkp := Lib.hid hkp
  have Hd2k := Lib.hid hd2k
  have Hd3k := Lib.hid hd3k
  have Hpl := Lib.hid hpl
  have Hn2' := Lib.hid hn2'
  clear hbx hrt hsq hw1 hrd hF1 hcl hdec hkp hko hd2k hd3k hk1 hk2 hok1 hok2 hf1 hf2 hok hsz hpc hn hr hpp hsec hpl hn2'
  obtain ⟨p, hp⟩ : ∃ p, p = splace x.life := ⟨_, rfl⟩
  rw [← hp] at Hpp Hw1 Hrd HF1 Hdec Hkp Hpl
  clear hp
  generalize encU [] (p : Int) (superS a d l x) = E at *
  obtain ⟨eb, U1⟩ := E
  have Hss : Hid (superS a d l x = ⟨2, x.life, x.base, x.gen, gMark a d l⟩) := Lib.hid rfl
  rw [Hss.out] at Hdec
  simp only at *
  obtain ⟨xl, xb, xg⟩ := x
  unfold supV at *
  simp only at *
  have k1 : ¬ xb < 0 := by omega
  have k2 : ¬ (1073741824 : Int) < xb := by omega
  clear h0 h1
  go_enter Try.func15, Try.ntmps15
  go_wp2_with fail
  obtain ⟨hB0, hX0, hY0⟩ := Hbx.out
  generalize (w.alloc (.cells #[.int .i64 a, .int .i64 d, .int .i64 l] 23)).alloc (.cells #[.int .u64 (xl : Int), .int .i64 xb, .int .u64 (xg : Int)] 107) = W0 at hB0 hX0 hY0 ⊢
  obtain ⟨x0, x1, x2⟩ := cells3 hX0
  go_wp2_with fail
  refine (Hsq.out _).mono ?_; rintro e W ⟨rfl, hbW⟩
  have hXW := (hbW.block _ (blk_lt hX0)).trans hX0
  have hYW := (hbW.block _ (blk_lt hY0)).trans hY0
  have hBW := Bthen hB0 hbW
  clear hX0 hY0 x0 x1 x2
  have HXW := Lib.hid hXW
  have HYW := Lib.hid hYW
  clear hXW hYW
  have cx := fun (w' : World) (hb : Below W.heap.size W w') => cells3 ((hb.block _ (blk_lt HXW.out)).trans HXW.out)
  have cy := fun (w' : World) (hb : Below W.heap.size W w') => cells3 ((hb.block _ (blk_lt HYW.out)).trans HYW.out)
  have Hcx := Lib.hid cx
  have Hcy := Lib.hid cy
  clear cx cy
  go_wp2_with fail
  refine (New_yes n W hn1 hn2).mono ?_; rintro e w1 ⟨rfl, hd1, hb1⟩
  have Hd1 := Lib.hid hd1; clear hd1
  go_wp2_with fail
  refine (Symbolic_at w1).mono ?_; rintro e w2 ⟨u, m, rfl, hs2, hu, hm, hb2⟩
  obtain ⟨S2, hd2, hB2, hS2⟩ := (Rig.made hb1 Hd1.out hs2 hu hm hb2).ex
  obtain ⟨x0, x1, x2⟩ := Hcx.out w2 hB2
  obtain ⟨y0, y1, y2⟩ := Hcy.out w2 hB2
  have hq := SWrite_c a d l ⟨xl, xb, xg⟩ hd2 (Few.new n) (by decide) (by decide) (by simp only; omega)
  rw [Hw1.out] at hq
  have Hq := Lib.hid hq
  clear hq hs2 hd2
  go_wp2_with fail
  refine Hq.out.mono ?_; rintro e w3 ⟨rfl, ht⟩
  obtain ⟨S3, hd3, hB3, hS3⟩ := (Rig.next hB2 hS2 ht).ex
  have Hd3 := Lib.hid hd3
  clear hd3 ht Hq x0 x1 x2 y0 y1 y2 hS2
  go_wp2_with fail
  have x0 := fun v : InS (BelowW w3) => (Hcx.out v.w (Bthen hB3 v.h)).1
  have x1 := fun v : InS (BelowW w3) => (Hcx.out v.w (Bthen hB3 v.h)).2.1
  have x2 := fun v : InS (BelowW w3) => (Hcx.out v.w (Bthen hB3 v.h)).2.2
  have y0 := fun v : InS (BelowW w3) => (Hcy.out v.w (Bthen hB3 v.h)).1
  have y1 := fun v : InS (BelowW w3) => (Hcy.out v.w (Bthen hB3 v.h)).2.1
  have y2 := fun v : InS (BelowW w3) => (Hcy.out v.w (Bthen hB3 v.h)).2.2
  refine wp_region_in (BelowW w3) [(0, true), (2, true), (1, false), (3, false), (4, false), (5, true), (6, true), (7, true), (8, true), (9, true), (10, false), (11, true), (12, true), (13, true), (14, true), (15, true), (16, true), (17, false), (18, true), (19, true)] (by kernel_rfl) (by kernel_rfl) (fun _ _ _ _ _ h => h) (inB_drew _) (fun hne => ?_)
  simp only [permOps, List.map_cons, List.map_nil, List.getD_cons_zero, List.getD_cons_succ]
  (repeat ((with_reducible refine wpPerm_F ?_); intro K hK; go_simp; refine hK _ _ ?_; clear hK K))
  (with_reducible refine wpPerm_E rfl ?_); intro K hK
  go_simp
  refine (SMark_any a d l _).mono ?_; rintro e w4 ⟨A4, c4, rfl, ho4, hb4⟩
  have hV4 : Below w3.heap.size w3 w4 := Bthen (Bdrew (Bnil _)) hb4
  have hy4 := BytesAt.own ho4
  clear ho4
  (refine hK _ _ ?_; clear hK K)
  refine ⟨inB_more hV4, ?_⟩
  (with_reducible refine wpPerm_E rfl ?_); intro K hK
  go_simp
  refine (RMark24_any a d l _).mono ?_; rintro e w5 ⟨A5, c5, rfl, ho5, hb5⟩
  have hV5 : Below w3.heap.size w3 w5 := Bthen hV4 hb5
  have hsm := Same_any A4 A5 _ _ c4 c5 _ _ w5 (hy4.below hb5) (BytesAt.own ho5) (by have := gMark_len a d l; omega)
  rw [show decide (gMark a d l = gMark a d l) = true by simp] at hsm
  have Hsm := Lib.hid hsm
  clear ho5 hsm hy4
  (refine hK _ _ ?_; clear hK K)
  refine ⟨inB_more hV5, ?_⟩
  (with_reducible refine wpPerm_E rfl ?_); intro K hK
  go_simp
  refine Hsm.out.mono ?_; rintro e w6 ⟨rfl, hb6⟩
  have hV6 : Below w3.heap.size w3 w6 := Bthen hV5 hb6
  (refine hK _ _ ?_; clear hK K)
  refine ⟨inB_more hV6, ?_⟩
  (repeat ((with_reducible refine wpPerm_F ?_); intro K hK; go_simp; refine hK _ _ ?_; clear hK K))
  (with_reducible refine wpPerm_G ?_); intro K K' hK hK'; go_simp
  refine (SWrite_nil a d l ⟨xl, xb, xg⟩ u _).mono ?_; rintro e w7 ⟨rfl, hb7⟩
  have hV7 : Below w3.heap.size w3 w7 := Bthen hV6 hb7
  (refine hK _ _ ?_; clear hK hK' K K')
  refine ⟨inB_more hV7, ?_⟩
  (repeat ((with_reducible refine wpPerm_F ?_); intro K hK; go_simp; refine hK _ _ ?_; clear hK K))
  (with_reducible refine wpPerm_G ?_); intro K K' hK hK'; go_simp
  refine (SWrite_bare a d l ⟨xl, xb, xg⟩ _ _).mono ?_; rintro e w8 ⟨rfl, hb8⟩
  have hV8 : Below w3.heap.size w3 w8 := Bthen hV7 hb8
  (refine hK _ _ ?_; clear hK hK' K K')
  refine ⟨inB_more hV8, ?_⟩
  (repeat ((with_reducible refine wpPerm_F ?_); intro K hK; go_simp; refine hK _ _ ?_; clear hK K))
  refine wpPerm_nil ?_
  clear x0 x1 x2 y0 y1 y2
  have hB8 := Bthen hB3 hV8
  obtain ⟨x0, x1, x2⟩ := Hcx.out w8 hB8
  go_wp2_with fail
  refine (Hrt.out _).mono ?_; rintro e w9 ⟨rfl, hb9⟩
  have hV9 := Bthen hV8 hb9
  have hB9 := Bthen hB8 hb9
  obtain ⟨y0, y1, y2⟩ := Hcy.out w9 hB9
  go_wp2_with fail
  refine (Hpp.out _).mono ?_; rintro e w9 ⟨rfl, rfl⟩
  have Hd9 := Lib.hid (Hd3.out.below hV9)
  have hkq := Hd9.out.kept p Hpl.out
  rw [Hkp.out] at hkq
  have Hkq := Lib.hid hkq; clear hkq
  go_wp2_with fail
  refine Hkq.out.mono ?_; rintro e w10 ⟨rfl, hby, hb10⟩
  have hdq := (Hd9.out.below hb10).decode (p : Int) _ _ 512 _ hby (Nat.le_refl _)
  rw [Hdec.out] at hdq
  have Hdq := Lib.hid hdq; clear hdq hby
  go_wp2_with fail
  refine Hdq.out.mono ?_; rintro e w11 ⟨A11, c11, rfl, hown, hb11⟩
  have hB11 := Bthen (Bthen hB9 hb10) hb11
  have hby11 := BytesAt.own hown
  have hcap11 := own_cap hown
  simp only at hby11 hcap11
  have Hd11 := Lib.hid ((Hd9.out.below hb10).below hb11)
  clear hown
  unfold secV
  simp only
  obtain ⟨x0, x1, x2⟩ := Hcx.out w11 hB11
  have hl11 : w.heap.size < w11.heap.size := World.block_lt_of_cell? _ _ x0
  clear y0 y1 y2
  go_wp2_with fail
  have hY12 := heap_alloc_new w11 (.cells #[.int .i64 2, .int .u64 (xl : Int), .int .i64 xb, .int .u64 (xg : Int), .slice A11 (gMark a d l).length c11] 54)
  have hb12 : Below w11.heap.size w11 (w11.alloc (.cells #[.int .i64 2, .int .u64 (xl : Int), .int .i64 xb, .int .u64 (xg : Int), .slice A11 (gMark a d l).length c11] 54)) := Bbox _ _
  generalize w11.alloc (.cells #[.int .i64 2, .int .u64 (xl : Int), .int .i64 xb, .int .u64 (xg : Int), .slice A11 (gMark a d l).length c11] 54) = w12 at hY12 hb12 ⊢
  have hB12 := Bthen hB11 hb12
  have Hd12 := Lib.hid (Hd11.out.below hb12)
  have Hby12 := Lib.hid (hby11.below hb12)
  clear x0 x1 x2 hby11
  obtain ⟨x0, x1, x2⟩ := Hcx.out w12 hB12
  have hq := SRead_c a d l Hd12.out
  rw [Hrd.out] at hq
  have Hq := Lib.hid hq
  clear hq
  unfold supV at Hq
  simp only at Hq
  go_wp2_with fail
  refine Hq.out.mono ?_; rintro e w13 ⟨rfl, hb13⟩
  have hB13 := Bthen hB12 hb13
  have hY13 := (hb13.block _ (blk_lt hY12)).trans hY12
  have hl13 := blk_lt hY13
  clear x0 x1 x2
  obtain ⟨x0, x1, x2⟩ := Hcx.out w13 hB13
  obtain ⟨y0, y1, y2⟩ := Hcy.out w13 hB13
  have hlx13 : w.heap.size < w13.heap.size := World.block_lt_of_cell? _ _ x0
  have hly13 : w.heap.size + 1 < w13.heap.size := World.block_lt_of_cell? _ _ y0
  go_wp2_with fail
  have hN14 := heap_alloc_new w13 (.cells #[.int .u64 (xl : Int), .int .i64 xb, .int .u64 (xg : Int)] 109)
  have hb14 : Below w13.heap.size w13 (w13.alloc (.cells #[.int .u64 (xl : Int), .int .i64 xb, .int .u64 (xg : Int)] 109)) := Bbox _ _
  generalize w13.alloc (.cells #[.int .u64 (xl : Int), .int .i64 xb, .int .u64 (xg : Int)] 109) = w14 at hN14 hb14 ⊢
  have hB14 := Bthen hB13 hb14
  have hY14 := (hb14.block _ (blk_lt hY13)).trans hY13
  refine (Hsec.out _).mono ?_; rintro e w15 ⟨A15, c15, rfl, hby15, hca15, hb15⟩
  have hB15 := Bthen hB14 hb15
  have hY15 := (hb15.block _ (blk_lt hY14)).trans hY14
  have hN15 := (hb15.block _ (blk_lt hN14)).trans hN14
  clear x0 x1 x2 y0 y1 y2 hY12 hY13 hY14 hN14 hlx13 hly13 hl13 hl11
  have Hby11 := Lib.hid (((Hby12.out.below hb13).below hb14).below hb15)
  rw [Hss.out]
  unfold secV
  simp only
  obtain ⟨v0, v1, v2, v3, v4, v5⟩ := cells5 hY15
  have hlY15 := blk_lt hY15
  go_wp2_with fail
  have hZ16 := heap_alloc_new w15 (.cells #[.int .i64 2, .int .u64 (xl : Int), .int .i64 xb, .int .u64 (xg : Int), .slice A15 (gMark a d l).length c15] 60)
  have hb16 : Below w15.heap.size w15 (w15.alloc (.cells #[.int .i64 2, .int .u64 (xl : Int), .int .i64 xb, .int .u64 (xg : Int), .slice A15 (gMark a d l).length c15] 60)) := Bbox _ _
  generalize w15.alloc (.cells #[.int .i64 2, .int .u64 (xl : Int), .int .i64 xb, .int .u64 (xg : Int), .slice A15 (gMark a d l).length c15] 60) = w16 at hZ16 hb16 ⊢
  have hB16 := Bthen hB15 hb16
  have hY16 := (hb16.block _ (blk_lt hY15)).trans hY15
  have hN16 := (hb16.block _ (blk_lt hN15)).trans hN15
  have hsm := R18Same_any (superS a d l ⟨xl, xb, xg⟩) (superS a d l ⟨xl, xb, xg⟩) A11 A15 c11 c15 w16 (Hby11.out.below hb16) (hby15.below hb16) (by simp only [superS]; omega)
  rw [show decide (superS a d l ⟨xl, xb, xg⟩ = superS a d l ⟨xl, xb, xg⟩) = true by simp] at hsm
  rw [Hss.out] at hsm
  unfold secV at hsm
  simp only at hsm
  have Hsm2 := Lib.hid hsm
  clear hsm hby15 Hsm hY15 hN15 v0 v1 v2 v3 v4 v5 hlY15
  obtain ⟨z0, z1, z2, z3, z4, z5⟩ := cells5 hZ16
  go_wp2_with fail
  refine Hsm2.out.mono ?_; rintro e w17 ⟨rfl, hb17⟩
  have hB17 := Bthen hB16 hb17
  have hN17 := (hb17.block _ (blk_lt hN16)).trans hN16
  clear z0 z1 z2 z3 z4 z5 hY16 hN16
  obtain ⟨x0, x1, x2⟩ := Hcx.out w17 hB17
  obtain ⟨y0, y1, y2⟩ := Hcy.out w17 hB17
  obtain ⟨n0, n1, n2⟩ := cells3 hN17
  go_wp2_with fail
  have hq := SClear_c a d l (((((Hd12.out.below hb13).below hb14).below hb15).below hb16).below hb17) HF1.out (by decide)
  rw [Hcl.out] at hq
  have Hq2 := Lib.hid hq
  clear hq
  refine Hq2.out.mono ?_; rintro e w18 ⟨rfl, ht⟩
  obtain ⟨S18, hd18, hB18, hS18⟩ := (Rig.next hB17 hS3 ht).ex
  clear x0 x1 x2 y0 y1 y2 n0 n1 n2 ht
  simp only at hd18
  have hk2 := hd18.kept 2 (by have := Hn2'.out; omega)
  rw [Hd2k.out] at hk2
  simp only [Int.cast_ofNat_Int] at hk2
  have Hk2 := Lib.hid hk2
  have Hd18 := Lib.hid hd18
  clear hk2 hd18
  go_wp2_with fail
  refine Hk2.out.mono ?_; rintro e w19 ⟨rfl, hby, hb19⟩
  have hrb := R18Blank_any _ 512 512 blankS w19 hby (by decide)
  rw [show decide (blankS = blankS) = true by simp] at hrb
  have Hrb := Lib.hid hrb; clear hrb hby
  go_wp2_with fail
  refine Hrb.out.mono ?_; rintro e w20 ⟨rfl, rfl⟩
  have hk3 := (Hd18.out.below hb19).kept 3 (by have := Hn2'.out; omega)
  rw [Hd3k.out] at hk3
  simp only [Int.cast_ofNat_Int] at hk3
  have Hk3 := Lib.hid hk3
  clear hk3
  go_wp2_with fail
  refine Hk3.out.mono ?_; rintro e w21 ⟨rfl, hby, hb21⟩
  have hrb := R18Blank_any _ 512 512 blankS w21 hby (by decide)
  rw [show decide (blankS = blankS) = true by simp] at hrb
  have Hrb3 := Lib.hid hrb; clear hrb hby
  go_wp2_with fail
  refine Hrb3.out.mono ?_; rintro e w22 ⟨rfl, rfl⟩
  go_wp2_with fail
  refine (Hal.out _).mono ?_; rintro e w23 ⟨rfl, hb23⟩
  go_wp2_with fail
  go_ret
  exact ⟨rfl, hBW.trans ((Bthen (Bthen (Bthen hB18 hb19) hb21) hb23).mono hBW.size)⟩

theorem SuperWrites_walk (a d l : Int) (xl : Nat) (xb : Int) (xg : Nat) (w : World) (hl : xl < 18446744073709551616) (hg : xg < 18446744073709551616) :
    Calls Try.prog 15 #[geoV a d l, supV ⟨xl, xb, xg⟩] w fun e w' => e = .returned (.bool true) ∧ Below w.heap.size w w' := by
  by_cases h : gRight a d l = false ∨ xb < 0 ∨ 1073741824 < xb
  · exact SuperWrites_no a d l ⟨xl, xb, xg⟩ w h hl
  · simp only [not_or, Int.not_lt] at h
    exact SuperWrites_yes a d l ⟨xl, xb, xg⟩ w (by simpa using h.1) h.2.1 h.2.2 hl hg

end Go.Proofs.Ytdjndeleafhglaa
namespace Go.Proofs.Ytdjndeleafhglaa
open Go

def orderCodes : List Nat := [104, 97, 114, 110, 101, 115, 115, 32, 48, 54, 97, 100, 99, 48, 97, 101, 49, 53, 100, 48, 54, 101, 101, 100, 56, 50, 99, 52, 48, 48, 97, 52, 50, 50, 56, 55, 100, 100, 100, 102, 50, 57, 56, 48, 52, 98, 53, 54, 56, 97, 51, 97, 56, 48, 48, 57, 51, 51, 50, 48, 48, 97, 56, 97, 101, 56, 49, 101, 52, 98, 49, 53, 32, 99, 117, 116, 32, 97, 116, 32, 111, 117, 98, 108, 105, 101, 116, 116, 101, 47, 111, 117, 98, 108, 105, 101, 116, 116, 101, 108, 97, 119, 50, 49, 46, 71, 101, 111, 109, 83, 105, 122, 101, 115, 32, 111, 117, 98, 108, 105, 101, 116, 116, 101, 47, 111, 117, 98, 108, 105, 101, 116, 116, 101, 108, 97, 119, 50, 49, 46, 71, 101, 111, 109, 65, 112, 97, 114, 116, 32, 111, 117, 98, 108, 105, 101, 116, 116, 101, 47, 111, 117, 98, 108, 105, 101, 116, 116, 101, 108, 97, 119, 50, 49, 46, 71, 101, 111, 109, 80, 108, 97, 99, 101, 115, 32, 111, 117, 98, 108, 105, 101, 116, 116, 101, 47, 111, 117, 98, 108, 105, 101, 116, 116, 101, 108, 97, 119, 49, 57, 46, 68, 105, 115, 107, 84, 101, 97, 114, 115, 32, 111, 117, 98, 108, 105, 101, 116, 116, 101, 47, 111, 117, 98, 108, 105, 101, 116, 116, 101, 108, 97, 119, 49, 56, 46, 83, 101, 99, 116, 111, 114, 82, 101, 97, 100, 115, 32, 111, 117, 98, 108, 105, 101, 116, 116, 101, 47, 111, 117, 98, 108, 105, 101, 116, 116, 101, 108, 97, 119, 49, 56, 46, 83, 101, 99, 116, 111, 114, 66, 121, 116, 101, 115, 32, 111, 117, 98, 108, 105, 101, 116, 116, 101, 47, 111, 117, 98, 108, 105, 101, 116, 116, 101, 108, 97, 119, 49, 56, 46, 83, 101, 99, 116, 111, 114, 66, 97, 99, 107, 32, 111, 117, 98, 108, 105, 101, 116, 116, 101, 47, 111, 117, 98, 108, 105, 101, 116, 116, 101, 108, 97, 119, 49, 57, 46, 68, 105, 115, 107, 80, 108, 97, 121, 115, 32, 111, 117, 98, 108, 105, 101, 116, 116, 101, 47, 111, 117, 98, 108, 105, 101, 116, 116, 101, 108, 97, 119, 49, 57, 46, 68, 105, 115, 107, 75, 101, 101, 112, 115, 32, 111, 117, 98, 108, 105, 101, 116, 116, 101, 47, 111, 117, 98, 108, 105, 101, 116, 116, 101, 108, 97, 119, 50, 57, 46, 82, 111, 111, 116, 80, 117, 116, 115, 32, 111, 117, 98, 108, 105, 101, 116, 116, 101, 47, 111, 117, 98, 108, 105, 101, 116, 116, 101, 108, 97, 119, 50, 57, 46, 82, 111, 111, 116, 82, 101, 97, 100, 115, 32, 111, 117, 98, 108, 105, 101, 116, 116, 101, 47, 111, 117, 98, 108, 105, 101, 116, 116, 101, 108, 97, 119, 50, 57, 46, 82, 111, 111, 116, 67, 114, 97, 115, 104, 101, 115, 32, 111, 117, 98, 108, 105, 101, 116, 116, 101, 47, 111, 117, 98, 108, 105, 101, 116, 116, 101, 108, 97, 119, 50, 52, 46, 83, 117, 112, 101, 114, 87, 114, 105, 116, 101, 115, 32, 111, 117, 98, 108, 105, 101, 116, 116, 101, 47, 111, 117, 98, 108, 105, 101, 116, 116, 101, 108, 97, 119, 50, 53, 46, 83, 110, 97, 112, 87, 114, 105, 116, 101, 115, 32, 111, 117, 98, 108, 105, 101, 116, 116, 101, 47, 111, 117, 98, 108, 105, 101, 116, 116, 101, 108, 97, 119, 50, 53, 46, 83, 110, 97, 112, 65, 112, 97, 114, 116, 32, 111, 117, 98, 108, 105, 101, 116, 116, 101, 47, 111, 117, 98, 108, 105, 101, 116, 116, 101, 108, 97, 119, 50, 52, 46, 83, 117, 112, 101, 114, 82, 101, 97, 100, 115, 32, 111, 117, 98, 108, 105, 101, 116, 116, 101, 47, 111, 117, 98, 108, 105, 101, 116, 116, 101, 108, 97, 119, 50, 53, 46, 83, 110, 97, 112, 82, 101, 97, 100, 115, 32, 111, 117, 98, 108, 105, 101, 116, 116, 101, 47, 111, 117, 98, 108, 105, 101, 116, 116, 101, 108, 97, 119, 50, 52, 46, 83, 117, 112, 101, 114, 67, 114, 97, 115, 104, 101, 115, 32, 111, 117, 98, 108, 105, 101, 116, 116, 101, 47, 111, 117, 98, 108, 105, 101, 116, 116, 101, 108, 97, 119, 50, 51, 46, 87, 97, 108, 83, 99, 97, 110, 115, 32, 111, 117, 98, 108, 105, 101, 116, 116, 101, 47, 111, 117, 98, 108, 105, 101, 116, 116, 101, 108, 97, 119, 50, 51, 46, 87, 97, 108, 65, 112, 112, 101, 110, 100, 115, 32, 111, 117, 98, 108, 105, 101, 116, 116, 101, 47, 111, 117, 98, 108, 105, 101, 116, 116, 101, 108, 97, 119, 50, 51, 46, 87, 97, 108, 67, 114, 97, 115, 104, 101, 115]
def orderWords : List (List Nat) := [[99, 117, 116], [97, 116], [111, 117, 98, 108, 105, 101, 116, 116, 101, 47, 111, 117, 98, 108, 105, 101, 116, 116, 101, 108, 97, 119, 50, 49, 46, 71, 101, 111, 109, 83, 105, 122, 101, 115], [111, 117, 98, 108, 105, 101, 116, 116, 101, 47, 111, 117, 98, 108, 105, 101, 116, 116, 101, 108, 97, 119, 50, 49, 46, 71, 101, 111, 109, 65, 112, 97, 114, 116], [111, 117, 98, 108, 105, 101, 116, 116, 101, 47, 111, 117, 98, 108, 105, 101, 116, 116, 101, 108, 97, 119, 50, 49, 46, 71, 101, 111, 109, 80, 108, 97, 99, 101, 115], [111, 117, 98, 108, 105, 101, 116, 116, 101, 47, 111, 117, 98, 108, 105, 101, 116, 116, 101, 108, 97, 119, 49, 57, 46, 68, 105, 115, 107, 84, 101, 97, 114, 115], [111, 117, 98, 108, 105, 101, 116, 116, 101, 47, 111, 117, 98, 108, 105, 101, 116, 116, 101, 108, 97, 119, 49, 56, 46, 83, 101, 99, 116, 111, 114, 82, 101, 97, 100, 115], [111, 117, 98, 108, 105, 101, 116, 116, 101, 47, 111, 117, 98, 108, 105, 101, 116, 116, 101, 108, 97, 119, 49, 56, 46, 83, 101, 99, 116, 111, 114, 66, 121, 116, 101, 115], [111, 117, 98, 108, 105, 101, 116, 116, 101, 47, 111, 117, 98, 108, 105, 101, 116, 116, 101, 108, 97, 119, 49, 56, 46, 83, 101, 99, 116, 111, 114, 66, 97, 99, 107], [111, 117, 98, 108, 105, 101, 116, 116, 101, 47, 111, 117, 98, 108, 105, 101, 116, 116, 101, 108, 97, 119, 49, 57, 46, 68, 105, 115, 107, 80, 108, 97, 121, 115], [111, 117, 98, 108, 105, 101, 116, 116, 101, 47, 111, 117, 98, 108, 105, 101, 116, 116, 101, 108, 97, 119, 49, 57, 46, 68, 105, 115, 107, 75, 101, 101, 112, 115], [111, 117, 98, 108, 105, 101, 116, 116, 101, 47, 111, 117, 98, 108, 105, 101, 116, 116, 101, 108, 97, 119, 50, 57, 46, 82, 111, 111, 116, 80, 117, 116, 115], [111, 117, 98, 108, 105, 101, 116, 116, 101, 47, 111, 117, 98, 108, 105, 101, 116, 116, 101, 108, 97, 119, 50, 57, 46, 82, 111, 111, 116, 82, 101, 97, 100, 115], [111, 117, 98, 108, 105, 101, 116, 116, 101, 47, 111, 117, 98, 108, 105, 101, 116, 116, 101, 108, 97, 119, 50, 57, 46, 82, 111, 111, 116, 67, 114, 97, 115, 104, 101, 115], [111, 117, 98, 108, 105, 101, 116, 116, 101, 47, 111, 117, 98, 108, 105, 101, 116, 116, 101, 108, 97, 119, 50, 52, 46, 83, 117, 112, 101, 114, 87, 114, 105, 116, 101, 115], [111, 117, 98, 108, 105, 101, 116, 116, 101, 47, 111, 117, 98, 108, 105, 101, 116, 116, 101, 108, 97, 119, 50, 53, 46, 83, 110, 97, 112, 87, 114, 105, 116, 101, 115], [111, 117, 98, 108, 105, 101, 116, 116, 101, 47, 111, 117, 98, 108, 105, 101, 116, 116, 101, 108, 97, 119, 50, 53, 46, 83, 110, 97, 112, 65, 112, 97, 114, 116], [111, 117, 98, 108, 105, 101, 116, 116, 101, 47, 111, 117, 98, 108, 105, 101, 116, 116, 101, 108, 97, 119, 50, 52, 46, 83, 117, 112, 101, 114, 82, 101, 97, 100, 115], [111, 117, 98, 108, 105, 101, 116, 116, 101, 47, 111, 117, 98, 108, 105, 101, 116, 116, 101, 108, 97, 119, 50, 53, 46, 83, 110, 97, 112, 82, 101, 97, 100, 115], [111, 117, 98, 108, 105, 101, 116, 116, 101, 47, 111, 117, 98, 108, 105, 101, 116, 116, 101, 108, 97, 119, 50, 52, 46, 83, 117, 112, 101, 114, 67, 114, 97, 115, 104, 101, 115], [111, 117, 98, 108, 105, 101, 116, 116, 101, 47, 111, 117, 98, 108, 105, 101, 116, 116, 101, 108, 97, 119, 50, 51, 46, 87, 97, 108, 83, 99, 97, 110, 115], [111, 117, 98, 108, 105, 101, 116, 116, 101, 47, 111, 117, 98, 108, 105, 101, 116, 116, 101, 108, 97, 119, 50, 51, 46, 87, 97, 108, 65, 112, 112, 101, 110, 100, 115], [111, 117, 98, 108, 105, 101, 116, 116, 101, 47, 111, 117, 98, 108, 105, 101, 116, 116, 101, 108, 97, 119, 50, 51, 46, 87, 97, 108, 67, 114, 97, 115, 104, 101, 115]]
theorem order_text : Try.prog.initOrder = String.ofList (orderCodes.map Char.ofNat) := by kernel_rfl
theorem order_chars : Try.prog.initOrder.toList = orderCodes.map Char.ofNat := by rw [order_text]; exact String.toList_ofList
theorem order_words : behindMainWord (wordsSigns Try.prog.initOrder.toList) = orderWords.map (List.map Char.ofNat) := by
  rw [order_chars]
  kernel_rfl
theorem order_strip : stripLifts liftWords (orderWords.map (List.map Char.ofNat)) = ([], orderWords.map (List.map Char.ofNat)) := by kernel_rfl
theorem order_cons : ∃ c rest, orderWords.map (List.map Char.ofNat) = c :: rest ∧ c = "cut".toList := ⟨_, _, rfl, by kernel_rfl⟩

theorem lifts_of {P : Program} {ws : List (List Char)} (h : behindMainWord (wordsSigns P.initOrder.toList) = ws) (hs : stripLifts liftWords ws = ([], ws)) : P.headLifts = [] := by
  unfold Program.headLifts
  rw [h, hs]
  dsimp only
  split <;> rfl
theorem make_of {P : Program} {ws : List (List Char)} (h : behindMainWord (wordsSigns P.initOrder.toList) = ws) (hc : ∃ c rest, ws = c :: rest ∧ c = "cut".toList) : P.make = some .cut := by
  obtain ⟨c, rest, rfl, rfl⟩ := hc
  unfold Program.make
  rw [h]
  dsimp only
  rw [if_neg (by decide), if_pos (by simp)]
theorem final_of {P : Program} {ws : List (List Char)} (h : behindMainWord (wordsSigns P.initOrder.toList) = ws) (hs : stripLifts liftWords ws = ([], ws)) (hc : ∃ c rest, ws = c :: rest ∧ c = "cut".toList) : P.liftsFinal = false := by
  obtain ⟨c, rest, rfl, rfl⟩ := hc
  unfold Program.liftsFinal
  rw [lifts_of h hs, h]
  simp
theorem enter_of {P : Program} {ws : List (List Char)} (h : behindMainWord (wordsSigns P.initOrder.toList) = ws) (hs : stripLifts liftWords ws = ([], ws)) (hc : ∃ c rest, ws = c :: rest ∧ c = "cut".toList)
    (hl : P.laysLater = false) (hr : P.bearsReflect = false) (hd : P.doorRows = []) : P.mayEnter = true := by
  obtain ⟨c, rest, rfl, rfl⟩ := hc
  unfold Program.mayEnter
  rw [h]
  dsimp only
  rw [hs]
  simp [hl, hr, Program.doorFits, hd]
theorem lays_fact : Try.prog.laysLater = false := by kernel_rfl
theorem refl_fact : Try.prog.bearsReflect = false := by kernel_rfl
theorem door_fact : Try.prog.doorRows = [] := by kernel_rfl
theorem enter_fact : Try.prog.mayEnter = true := enter_of order_words order_strip order_cons lays_fact refl_fact door_fact
theorem final_fact : Try.prog.liftsFinal = false := final_of order_words order_strip order_cons
theorem make_fact : Try.prog.make = some .cut := make_of order_words order_cons
theorem own_fact : ownKnob Try.prog.godebug = none := by kernel_rfl
theorem laid_fact : laidOutB Try.prog = true := by kernel_rfl
theorem maps_fact : mapsRowed Try.prog = true := by kernel_rfl
theorem heard_fact : Try.prog.stopsHeard = true := by kernel_rfl
theorem keys_fact : Try.prog.plainKeys = false := by kernel_rfl
theorem stops_fact : Try.prog.stops = [] := by kernel_rfl
theorem knobs_fact : Try.prog.stopKnobs = [] := by kernel_rfl
end Go.Proofs.Ytdjndeleafhglaa
namespace Go.Proofs.Ytdjndeleafhglaa
open Go.RowKit Go.ChangeShapes Go.WideShapes Go.ChangeAt

/-- What came in: two sectors, and bytes. -/
structure SecIn (w : World) (x : Sec) (A : Option Addr) (c : Nat) : Prop where
  at_ : BytesAt w A x.body.length x.body
  cap : x.body.length ≤ c
  life : x.life < 18446744073709551616
  gen : x.gen < 18446744073709551616
  big : x.body.length ≤ maxLen
theorem SecIn.below {w w' : World} {x : Sec} {A : Option Addr} {c : Nat} (h : SecIn w x A c) (hb : Below w.heap.size w w') : SecIn w' x A c := ⟨h.at_.below hb, h.cap, h.life, h.gen, h.big⟩

theorem ofInts (zs : List Int) (h : ∀ n ∈ zs, 0 ≤ n ∧ n ≤ 255) : ∃ l : List UInt8, l.length = zs.length ∧ ∀ i : Nat, i < zs.length → ∃ b, l[i]? = some b ∧ (b.toNat : Int) = zs.getD i 0 := by
  refine ⟨zs.map fun n => UInt8.ofNat n.toNat, by simp, fun i hi => ⟨UInt8.ofNat (zs[i]).toNat, by simp [hi], ?_⟩⟩
  have := h zs[i] (List.getElem_mem hi)
  rw [UInt8.toNat_ofNat_of_lt' (by simp only [UInt8.size]; omega)]
  simp [List.getD, hi]
  omega

theorem opened_bytes {H : Type} {enc : TypeId × Value → H} {P : Program} {W : World} {t e : TypeId} {fuel : Nat} {cs : List Value} {x : DataW H × List MemPlace} (ht : P.underlying t = some (.slice e)) (he : P.underlying e = some (.int .u8)) (hc : P.cellsOf e = 1)
    (h : DataW.trod enc P W 0 (fun _ => true) true fuel t cs = some x) :
    ∃ (A : Option Addr) (n c : Nat) (l : List UInt8), cs = [.slice A n c] ∧ BytesAt W A n l ∧ n ≤ c ∧ n ≤ maxLen := by
  rcases open_ints ht he hc h with ⟨hcs, _⟩ | ⟨a, len, cap, zs, hcs, _, hl, hm, hz, _, hcell, hwf⟩
  · exact ⟨none, 0, 0, [], hcs, BytesAt.nil _, Nat.le_refl _, Nat.zero_le _⟩
  · simp only [if_true] at hz
    obtain ⟨l, hll, hlg⟩ := ofInts zs (fun n hn => bounds_u8 (hwf n hn))
    refine ⟨some a, len, cap, l.take len, hcs, ⟨by rw [List.length_take]; omega, fun hn => ?_⟩, hl, Nat.le_trans hl hm⟩
    obtain ⟨ab, ao, spot⟩ := a
    have hspot : spot = none := by simpa [Addr.add] using World.cell?_spot (hcell 0 (by omega))
    subst hspot
    refine ⟨ab, ao, rfl, fun j u hu => ?_⟩
    have hj : j < len := by have := (List.getElem?_eq_some_iff.1 hu).1; rw [bytesV_length, List.length_take] at this; omega
    obtain ⟨b, hb, hbz⟩ := hlg j (by omega)
    have hcj := hcell j (by omega)
    rw [Addr.add_mid] at hcj
    rw [hcj, ← hbz]
    simp only [bytesV, List.getElem?_map, List.getElem?_take, if_pos hj, hb, Option.map_some, Option.some.injEq] at hu
    rw [← hu]

theorem array5 {α : Type} {cs : Array α} (h : cs.size = 5) : ∃ c0 c1 c2 c3 c4, cs = #[c0, c1, c2, c3, c4] := by
  obtain ⟨l⟩ := cs
  match l, h with
  | [c0, c1, c2, c3, c4], _ => exact ⟨c0, c1, c2, c3, c4, rfl⟩
theorem list5 {α : Type} {cs : List α} (h : cs.length = 5) : ∃ c0 c1 c2 c3 c4, cs = [c0, c1, c2, c3, c4] := by
  match cs, h with
  | [c0, c1, c2, c3, c4], _ => exact ⟨c0, c1, c2, c3, c4, rfl⟩

theorem sec_cells : Try.prog.cellsOf 60 = 5 := by kernel_rfl
theorem sec_fields : ∃ f0 f1 f2 f3 f4 : Field, Try.prog.underlying 60 = some (.struct #[f0, f1, f2, f3, f4]) ∧ f0.type = 3 ∧ f1.type = 28 ∧ f2.type = 3 ∧ f3.type = 28 ∧ f4.type = 41 ∧
    f0.offset = 0 ∧ f1.offset = 1 ∧ f2.offset = 2 ∧ f3.offset = 3 ∧ f4.offset = 4 :=
  ⟨_, _, _, _, _, Try.underlying60, rfl, rfl, rfl, rfl, rfl, rfl, rfl, rfl, rfl, rfl⟩
theorem cells_int : Try.prog.cellsOf 3 = 1 := by kernel_rfl
theorem cells_u64 : Try.prog.cellsOf 28 = 1 := by kernel_rfl
theorem cells_u8 : Try.prog.cellsOf 5 = 1 := by kernel_rfl
theorem cells_bytes : Try.prog.cellsOf 41 = 1 := by kernel_rfl

/-- A sector's cells that came in. -/
theorem opened_sec {H : Type} {enc : TypeId × Value → H} {W : World} {fuel : Nat} {cs : List Value} {x : DataW H × List MemPlace} (h : DataW.trod enc Try.prog W 0 (fun _ => true) true fuel 60 cs = some x) :
    ∃ (s : Sec) (A : Option Addr) (c : Nat), cs = [.int .i64 s.kind, .int .u64 (s.life : Int), .int .i64 s.seq, .int .u64 (s.gen : Int), .slice A s.body.length c] ∧ SecIn W s A c := by
  obtain ⟨f0, f1, f2, f3, f4, hs, t0, t1, t2, t3, t4, o0, o1, o2, o3, o4⟩ := sec_fields
  obtain ⟨xs, n, _, rfl, hl, hlen, hf⟩ := DataW.trod_struct hs h
  rw [sec_cells] at hl
  obtain ⟨c0, c1, c2, c3, c4, rfl⟩ := list5 hl
  have h0 := hf 0 f0 rfl
  have h1 := hf 1 f1 rfl
  have h2 := hf 2 f2 rfl
  have h3 := hf 3 f3 rfl
  have h4 := hf 4 f4 rfl
  rw [t0, o0, cells_int] at h0
  rw [t1, o1, cells_u64] at h1
  rw [t2, o2, cells_int] at h2
  rw [t3, o3, cells_u64] at h3
  rw [t4, o4, cells_bytes] at h4
  have hx : ∀ i, i < 5 → ∃ y, xs[i]? = some y := fun i hi => ⟨_, List.getElem?_eq_getElem (by rw [hlen]; exact hi)⟩
  obtain ⟨y0, e0⟩ := hx 0 (by decide)
  obtain ⟨y1, e1⟩ := hx 1 (by decide)
  obtain ⟨y2, e2⟩ := hx 2 (by decide)
  obtain ⟨y3, e3⟩ := hx 3 (by decide)
  obtain ⟨y4, e4⟩ := hx 4 (by decide)
  rw [e0] at h0; rw [e1] at h1; rw [e2] at h2; rw [e3] at h3; rw [e4] at h4
  obtain ⟨n0, g0, _, _⟩ := DataW.trod_int Try.underlying3 h0
  obtain ⟨n1, g1, _, w1⟩ := DataW.trod_int Try.underlying28 h1
  obtain ⟨n2, g2, _, _⟩ := DataW.trod_int Try.underlying3 h2
  obtain ⟨n3, g3, _, w3⟩ := DataW.trod_int Try.underlying28 h3
  obtain ⟨A, m, c, l, g4, hb, hc, hbig⟩ := opened_bytes Try.underlying41 Try.underlying5 cells_u8 h4
  obtain rfl : c0 = .int .i64 n0 := by simpa using g0
  obtain rfl : c1 = .int .u64 n1 := by simpa using g1
  obtain rfl : c2 = .int .i64 n2 := by simpa using g2
  obtain rfl : c3 = .int .u64 n3 := by simpa using g3
  obtain rfl : c4 = .slice A m c := by simpa using g4
  have b1 := bounds_u64 w1
  have b3 := bounds_u64 w3
  have hl := hb.len
  subst hl
  refine ⟨⟨n0, n1.toNat, n2, n3.toNat, l⟩, A, c, ?_, hb, hc, by simp only; omega, by simp only; omega, hbig⟩
  simp only [List.cons.injEq, Value.int.injEq, true_and, and_true]
  omega
set_option maxRecDepth 100000 in
theorem opened_secV {H : Type} {enc : TypeId × Value → H} {W : World} {base : Nat} {v : Value} {d : DataW H} {p : List MemPlace} (hval : Value.okWide Try.prog W .any base 60 v) (h : DataW.Trod enc Try.prog W 0 (fun _ => true) true 60 v d p) :
    ∃ (s : Sec) (A : Option Addr) (c : Nat), v = secV s A c ∧ SecIn W s A c := by
  obtain ⟨f0, f1, f2, f3, f4, hs, _⟩ := sec_fields
  obtain ⟨cs, rfl, _⟩ := okWide_struct hs hval
  obtain ⟨fuel, hf⟩ := h
  obtain ⟨s, A, c, hcs, hin⟩ := opened_sec hf
  refine ⟨s, A, c, ?_, hin⟩
  have : cs.toList = _ := hcs
  unfold secV
  congr 1
  exact Array.toList_inj.1 this
set_option maxRecDepth 100000 in
theorem opened_bytesV {H : Type} {enc : TypeId × Value → H} {W : World} {base : Nat} {v : Value} {d : DataW H} {p : List MemPlace} (hval : Value.okWide Try.prog W .any base 41 v) (h : DataW.Trod enc Try.prog W 0 (fun _ => true) true 41 v d p) :
    ∃ (A : Option Addr) (n c : Nat) (l : List UInt8), v = .slice A n c ∧ BytesAt W A n l ∧ n ≤ c := by
  obtain ⟨a1, len, cap, rfl⟩ := okWide_slice Try.underlying41 hval
  obtain ⟨fuel, hf⟩ := h
  obtain ⟨A, n, c, l, hcs, hb, hc, _⟩ := opened_bytes Try.underlying41 Try.underlying5 cells_u8 hf
  refine ⟨A, n, c, l, ?_, hb, hc⟩
  simpa [Value.cells] using hcs

theorem cells_ints : Try.prog.cellsOf 29 = 1 := by kernel_rfl

theorem opened_ints_cells {H : Type} {enc : TypeId × Value → H} {P : Program} {W : World} {t e : TypeId} {fuel : Nat} {cs : List Value} {x : DataW H × List MemPlace} (ht : P.underlying t = some (.slice e)) (he : P.underlying e = some (.int .i64)) (hc : P.cellsOf e = 1)
    (h : DataW.trod enc P W 0 (fun _ => true) true fuel t cs = some x) :
    ∃ (A : Option Addr) (n c : Nat) (ks : List Int), cs = [.slice A n c] ∧ IntsAt W A n ks ∧ n ≤ c ∧ n ≤ maxLen ∧ (0 < n → ∀ g o, A = some ⟨g, o, none⟩ → g < W.heap.size) := by
  rcases open_ints ht he hc h with ⟨hcs, _⟩ | ⟨a, len, cap, zs, hcs, _, hl, hm, hz, _, hcell, _⟩
  · exact ⟨none, 0, 0, [], hcs, ⟨rfl, fun h => by omega⟩, Nat.le_refl _, Nat.zero_le _, fun h => by omega⟩
  · simp only [if_true] at hz
    have hat : 0 < len → ∃ g o, some a = some (⟨g, o, none⟩ : Addr) ∧ W.rangeAt g o (intsV (zs.take len)) := fun hn => by
      obtain ⟨ab, ao, spot⟩ := a
      have hspot : spot = none := by simpa [Addr.add] using World.cell?_spot (hcell 0 (by omega))
      subst hspot
      refine ⟨ab, ao, rfl, fun j u hu => ?_⟩
      have hj : j < len := by have := (List.getElem?_eq_some_iff.1 hu).1; rw [intsV_length, List.length_take] at this; omega
      have := hcell j (by omega)
      rw [Addr.add_mid] at this
      rw [this]
      simp only [intsV, List.getElem?_map, List.getElem?_take, if_pos hj, List.getElem?_eq_getElem (show j < zs.length by omega), Option.map_some, Option.some.injEq] at hu
      rw [← hu]
      simp [List.getD, List.getElem?_eq_getElem (show j < zs.length by omega)]
    refine ⟨some a, len, cap, zs.take len, hcs, ⟨by rw [List.length_take]; omega, hat⟩, hl, Nat.le_trans hl hm, fun hn g o hg => ?_⟩
    obtain ⟨g', o', hg', hr⟩ := hat hn
    rw [hg] at hg'
    injection hg' with hg'
    injection hg' with h1 h2
    subst h1
    exact rangeAt_lt hr (by rw [intsV_length, List.length_take]; omega)

theorem choose_list {α β : Type} (R : α → β → Prop) (l : List α) (h : ∀ x ∈ l, ∃ y, R x y) : ∃ m : List β, m.length = l.length ∧ ∀ (k : Nat) x, l[k]? = some x → ∃ y, m[k]? = some y ∧ R x y := by
  induction l with
  | nil => exact ⟨[], rfl, fun k x hx => by simp at hx⟩
  | cons a l ih =>
    obtain ⟨y, hy⟩ := h a List.mem_cons_self
    obtain ⟨m, hm, hr⟩ := ih (fun x hx => h x (List.mem_cons_of_mem _ hx))
    refine ⟨y :: m, by simp [hm], fun k x hx => ?_⟩
    cases k with
    | zero => obtain rfl : a = x := by simpa using hx
              exact ⟨y, rfl, hy⟩
    | succ k => exact hr k x (by simpa using hx)


/-- A row in memory, of elements that lie in sz cells each. -/
structure RowsAt (w : World) (A : Option Addr) (sz : Nat) (l : List (List Value)) : Prop where
  at_ : 0 < l.length → ∃ g o, A = some ⟨g, o, none⟩ ∧ ∀ (k : Nat) x, l[k]? = some x → w.rangeAt g (o + k * sz) x
/-- A slice that came in, of elements of which each is opened by 'he'. -/
theorem opened_slice {H : Type} {enc : TypeId × Value → H} {P : Program} {W : World} {α : Type} {t e : TypeId} (f : α → List Value) (R : α → Prop) (sz : Nat) (hsz : 0 < sz) (hf : ∀ a, (f a).length = sz)
    (ht : P.underlying t = some (.slice e)) (hc : P.cellsOf e = sz) (he : ∀ (fuel : Nat) (cs : List Value) (x : DataW H × List MemPlace), DataW.trod enc P W 0 (fun _ => true) true fuel e cs = some x → ∃ a, cs = f a ∧ R a)
    {fuel : Nat} {cs : List Value} {x : DataW H × List MemPlace} (h : DataW.trod enc P W 0 (fun _ => true) true fuel t cs = some x) :
    ∃ (A : Option Addr) (c : Nat) (l : List α), cs = [.slice A l.length c] ∧ RowsAt W A sz (l.map f) ∧ (∀ a ∈ l, R a) ∧ l.length ≤ c ∧ l.length ≤ maxLen := by
  rcases DataW.trod_slice ht h with ⟨hcs, _⟩ | ⟨a, len, cap, elems, rest, n, _, hcs, _, _, hl, hm, hlen, hel, _, _⟩
  · exact ⟨none, 0, [], hcs, ⟨fun h => by simp at h⟩, fun x hx => by simp at hx, Nat.le_refl _, Nat.zero_le _⟩
  · have hone : ∀ i, i < len → ∃ x : α, (∀ j u, (f x)[j]? = some u → W.cell? ((a.add (i * sz)).add j) = some u) ∧ R x := by
      intro i hi
      have hi2 := hel i hi
      rw [hc, List.getElem?_eq_getElem (by omega), Option.bind_eq_some_iff] at hi2
      obtain ⟨cs, hcs, ht⟩ := hi2
      obtain ⟨x, rfl, hx⟩ := he _ _ _ ht
      refine ⟨x, fun j u hu => ?_, hx⟩
      obtain ⟨q1, q2, q3⟩ := World.cells?_some hcs
      have hj : j < sz := by have := (List.getElem?_eq_some_iff.1 hu).1; rw [hf] at this; exact this
      rw [q3 j hj, hu]
    obtain ⟨l, hll, hr⟩ := choose_list (fun i (x : α) => (∀ j u, (f x)[j]? = some u → W.cell? ((a.add (i * sz)).add j) = some u) ∧ R x) (List.range len) (fun i hi => hone i (List.mem_range.1 hi))
    rw [List.length_range] at hll
    have hget : ∀ (k : Nat) x, l[k]? = some x → (∀ j u, (f x)[j]? = some u → W.cell? ((a.add (k * sz)).add j) = some u) ∧ R x := by
      intro k x hx
      have hk : k < len := by rw [← hll]; exact (List.getElem?_eq_some_iff.1 hx).1
      obtain ⟨y, hy, hR⟩ := hr k k (by rw [List.getElem?_range hk])
      rw [hx] at hy
      cases hy
      exact hR
    refine ⟨some a, cap, l, by rw [hll]; exact hcs, ⟨fun h0 => ?_⟩, fun x hx => ?_, by omega, by omega⟩
    · rw [List.length_map] at h0
      obtain ⟨x0, hx0⟩ : ∃ x, l[0]? = some x := ⟨_, List.getElem?_eq_getElem h0⟩
      obtain ⟨ab, ao, spot⟩ := a
      obtain ⟨v0, hv0⟩ : ∃ v, (f x0)[0]? = some v := ⟨_, List.getElem?_eq_getElem (by rw [hf]; exact hsz)⟩
      have h00 := (hget 0 x0 hx0).1 0 _ hv0
      have hspot : spot = none := by simpa [Addr.add] using World.cell?_spot h00
      subst hspot
      refine ⟨ab, ao, rfl, fun k x hx j u hu => ?_⟩
      rw [List.getElem?_map, Option.map_eq_some_iff] at hx
      obtain ⟨y, hy, rfl⟩ := hx
      have := (hget k y hy).1 j u hu
      rw [Addr.add_mid, Addr.add_mid] at this
      exact this
    · obtain ⟨k, hk⟩ := List.getElem?_of_mem hx
      exact (hget k x hk).2

end Go.Proofs.Ytdjndeleafhglaa
namespace Go.Proofs.Ytdjndeleafhglaa
open Go.RowKit

theorem super_fields : ∃ f0 f1 f2 : Field, Try.prog.underlying 107 = some (.struct #[f0, f1, f2]) ∧ f0.type = 28 ∧ f1.type = 3 ∧ f2.type = 28 ∧ f0.offset = 0 ∧ f1.offset = 1 ∧ f2.offset = 2 :=
  ⟨_, _, _, Try.underlying107, rfl, rfl, rfl, rfl, rfl, rfl⟩
theorem super_cells : Try.prog.cellsOf 107 = 3 := by kernel_rfl
theorem list3s {α : Type} {cs : List α} (h : cs.length = 3) : ∃ c0 c1 c2, cs = [c0, c1, c2] := by
  match cs, h with
  | [c0, c1, c2], _ => exact ⟨c0, c1, c2, rfl⟩
theorem opened_superC {H : Type} {enc : TypeId × Value → H} {W : World} {fuel : Nat} {cs : List Value} {x : DataW H × List MemPlace} (h : DataW.trod enc Try.prog W 0 (fun _ => true) true fuel 107 cs = some x) :
    ∃ (xl : Nat) (xb : Int) (xg : Nat), cs = [.int .u64 (xl : Int), .int .i64 xb, .int .u64 (xg : Int)] ∧ xl < 18446744073709551616 ∧ xg < 18446744073709551616 ∧ -9223372036854775808 ≤ xb ∧ xb ≤ 9223372036854775807 := by
  obtain ⟨f0, f1, f2, hs, t0, t1, t2, o0, o1, o2⟩ := super_fields
  obtain ⟨xs, n, _, rfl, hl, hlen, hf⟩ := DataW.trod_struct hs h
  rw [super_cells] at hl
  obtain ⟨c0, c1, c2, rfl⟩ := list3s hl
  have h0 := hf 0 f0 rfl
  have h1 := hf 1 f1 rfl
  have h2 := hf 2 f2 rfl
  rw [t0, o0, cells_u64] at h0
  rw [t1, o1, cells_int] at h1
  rw [t2, o2, cells_u64] at h2
  have hx : ∀ i, i < 3 → ∃ y, xs[i]? = some y := fun i hi => ⟨_, List.getElem?_eq_getElem (by rw [hlen]; exact hi)⟩
  obtain ⟨y0, e0⟩ := hx 0 (by decide)
  obtain ⟨y1, e1⟩ := hx 1 (by decide)
  obtain ⟨y2, e2⟩ := hx 2 (by decide)
  rw [e0] at h0; rw [e1] at h1; rw [e2] at h2
  obtain ⟨n0, g0, _, b0⟩ := DataW.trod_int Try.underlying28 h0
  obtain ⟨n1, g1, _, b1⟩ := DataW.trod_int Try.underlying3 h1
  obtain ⟨n2, g2, _, b2⟩ := DataW.trod_int Try.underlying28 h2
  obtain rfl : c0 = .int .u64 n0 := by simpa using g0
  obtain rfl : c1 = .int .i64 n1 := by simpa using g1
  obtain rfl : c2 = .int .u64 n2 := by simpa using g2
  have e0 := bounds_u64 b0
  have e1 := bounds_i64 b1
  have e2 := bounds_u64 b2
  obtain ⟨m0, rfl⟩ := Int.eq_ofNat_of_zero_le e0.1
  obtain ⟨m2, rfl⟩ := Int.eq_ofNat_of_zero_le e2.1
  exact ⟨m0, n1, m2, rfl, by omega, by omega, e1.1, e1.2⟩
open Go.ChangeShapes Go.WideShapes Go.ChangeAt in
set_option maxRecDepth 100000 in
theorem opened_super {H : Type} {enc : TypeId × Value → H} {W : World} {base : Nat} {v : Value} {d : DataW H} {p : List MemPlace} (hval : Value.okWide Try.prog W .any base 107 v) (h : DataW.Trod enc Try.prog W 0 (fun _ => true) true 107 v d p) :
    ∃ (xl : Nat) (xb : Int) (xg : Nat), v = supV ⟨xl, xb, xg⟩ ∧ xl < 18446744073709551616 ∧ xg < 18446744073709551616 ∧ -9223372036854775808 ≤ xb ∧ xb ≤ 9223372036854775807 := by
  obtain ⟨f0, f1, f2, hs, _⟩ := super_fields
  obtain ⟨cs, rfl, _⟩ := okWide_struct hs hval
  obtain ⟨fuel, hf⟩ := h
  obtain ⟨xl, xb, xg, hcs, hl, hg, b⟩ := opened_superC hf
  refine ⟨xl, xb, xg, ?_, hl, hg, b⟩
  have : cs.toList = _ := hcs
  unfold supV
  congr 1
  exact Array.toList_inj.1 this

end Go.Proofs.Ytdjndeleafhglaa
