/-
  Bytes are stamped at a place: written, and flushed; and what the power may do the while. Plain disks, no program.
  What is written is read, by whatever suite: plain lists.
  Roots, in plain words: what is put, read, erased and settled. No program.
  The plain answers of the geometry (layer 21), in numbers, and their bounds. No program stands here.
  The walks of the package geom and of its reference: what each function answers, and that it writes nothing that was there.
  The walks of the package geom, the second half: Size, Root, Super, Log, Area, Where.
  The walks of the package root.
  The walks of the package root: Settle, and what is told where there is no disk or no suite.
  Small words of the document on sectors, walked: Same, Blank.
  The statements on roots: small functions, and the example.
  Worlds in which nothing but what T names has turned; and the pair of disk and suite beside blocks that are kept.
  Facts on the program's head that every statement's row asks, proved apart: the kernel would not hold them at once.
  What comes in, opened: bytes, ints, sectors by value, and slices of what may be opened.
  The walk of the statement RootReads.
-/
import Derived.Test.YtdjndeleafhglaaM2
import Derived.Test.YtdjndeleafhglaaM3
import Derived.WalkKit
import Derived.Test.YtdjndeleafhglaaRows
import Derived.Test.YtdjndeleafhglaaM1
import Derived.Laws.EntriesVeiled
import Derived.ProofKit
import Derived.OpenShut
import Derived.ChangeSlices
import Derived.WideShapes
import Derived.Lib.SmallJoins
namespace Go.Proofs.Ytdjndeleafhglaa

/-- Nothing waits, and the power is there. -/
structure Calm (D : DS) : Prop where
  up : D.down = false
  idle : D.pend = []

theorem Calm.new (n : Nat) : Calm (newD n) := ⟨rfl, rfl⟩
theorem Calm.read {D : DS} (h : Calm D) {p : Nat} (hp : p < D.n) : readX D (p : Int) = (D.kept p, 0) := by
  unfold readX readD
  rw [if_neg (by simp [h.up]), if_neg (by omega), h.idle]
  rfl

/-- Writing, then flushing. -/
def stampD (D : DS) (p : Int) (b : List UInt8) : Int × DS := if (writeD D p b).1 ≠ 0 then writeD D p b else flushD (writeD D p b).2

/-- What a stamp leaves: it is there, or the power went first. -/
inductive Stamped (D : DS) (p : Nat) (b : List UInt8) (R : Int × DS) : Prop where
  | yes (h0 : R.1 = 0) (hk : R.2.kept = fun q => if q = p then b else D.kept q) (hn : R.2.n = D.n) (hc : Calm R.2) (hf : D.fuse = -1 → R.2.fuse = -1)
  | no (h0 : R.1 = 12) (hk : R.2.kept = D.kept) (hn : R.2.n = D.n) (hp : R.2.pend = [(p, b)]) (hd : R.2.down = true) (hf : D.fuse ≠ -1)

theorem stamp_calm {D : DS} (h : Calm D) (hf : -1 ≤ D.fuse) {p : Nat} (hp : p < D.n) {b : List UInt8} (hb : b.length = 512) : Stamped D p b (stampD D (p : Int) b) := by
  obtain ⟨n, kept, pend, hist, fuse, calls, down⟩ := D
  obtain ⟨h1, h2⟩ := h
  simp only at h1 h2 hp hf
  subst h1 h2
  have hw : writeD ⟨n, kept, [], hist, fuse, calls, false⟩ (p : Int) b = burnD ⟨n, kept, [(p, b)], hist, fuse, calls, false⟩ := by
    unfold writeD
    rw [if_neg (by simp), if_neg (by simp only; omega), if_neg (by simp [hb])]
    rfl
  unfold stampD
  rw [hw]
  unfold burnD
  by_cases h0 : fuse = 0
  · rw [if_pos h0, if_pos (by simp)]
    exact .no rfl rfl rfl rfl rfl (by simp only; omega)
  rw [if_neg h0]
  by_cases h1 : 0 < fuse
  · rw [if_pos h1, if_neg (by simp)]
    unfold flushD
    rw [if_neg (by simp)]
    unfold burnD
    simp only
    by_cases h2 : fuse - 1 = 0
    · rw [if_pos h2, if_pos (by simp)]
      exact .no rfl rfl rfl rfl rfl (by simp only; omega)
    · rw [if_neg h2, if_pos (show 0 < fuse - 1 by omega), if_neg (by simp)]
      exact .yes rfl rfl rfl ⟨rfl, rfl⟩ (fun e => by simp only at e; omega)
  · rw [if_neg h1, if_neg (by simp)]
    unfold flushD
    rw [if_neg (by simp)]
    unfold burnD
    simp only
    rw [if_neg h0, if_neg h1, if_neg (by simp)]
    exact .yes rfl rfl rfl ⟨rfl, rfl⟩ (fun e => e)

/-- What the restart leaves of nothing pending. -/
theorem rest_idle {D : DS} (h : D.pend = []) (ks : List Int) (torn at_ : Int) : (restD D ks torn at_).kept = D.kept ∧ (restD D ks torn at_).n = D.n ∧ Calm (restD D ks torn at_) ∧ (restD D ks torn at_).fuse = -1 := by
  unfold restD restAll
  rw [h]
  exact ⟨rfl, rfl, ⟨rfl, rfl⟩, rfl⟩
/-- .. of one thing pending: elsewhere all is as it was. -/
theorem rest_one {D : DS} {p : Nat} {b : List UInt8} (h : D.pend = [(p, b)]) (ks : List Int) (torn at_ : Int) :
    (∀ q, q ≠ p → (restD D ks torn at_).kept q = D.kept q) ∧ ((restD D ks torn at_).kept p = D.kept p ∨ (restD D ks torn at_).kept p = b ∨ (restD D ks torn at_).kept p = b.take (at_ % 513).toNat ++ (D.kept p).drop (at_ % 513).toNat) ∧
      (restD D ks torn at_).n = D.n ∧ Calm (restD D ks torn at_) ∧ (restD D ks torn at_).fuse = -1 := by
  have e : restAll ks torn (at_ % 513).toNat D D.pend = stepR ks torn (at_ % 513).toNat D (p, b) 0 := by rw [h]; rfl
  unfold restD
  rw [e]
  unfold stepR
  split
  · refine ⟨fun q hq => ?_, .inr (.inr ?_), rfl, ⟨rfl, rfl⟩, rfl⟩
    · simp only [keepD]; rw [if_neg hq]
    · simp only [keepD, if_true]
  · split
    · refine ⟨fun q hq => ?_, .inr (.inl ?_), rfl, ⟨rfl, rfl⟩, rfl⟩
      · simp only [keepD]; rw [if_neg hq]
      · simp only [keepD, if_true]
    · exact ⟨fun q hq => rfl, .inl rfl, rfl, ⟨rfl, rfl⟩, rfl⟩
theorem restD_n (D : DS) (ks : List Int) (torn at_ : Int) : (restD D ks torn at_).n = D.n := by
  obtain ⟨h1, _⟩ := restAll_same ks torn (at_ % 513).toNat D.pend D
  exact h1
theorem restD_calm (D : DS) (ks : List Int) (torn at_ : Int) : Calm (restD D ks torn at_) := ⟨rfl, rfl⟩
theorem Few.stamp {D : DS} {q : Nat} (h : Few D q) (p : Int) (b : List UInt8) : Few (stampD D p b).2 (q + 2) := by
  unfold stampD
  split
  · exact (h.write p b).mono (by omega)
  · exact (h.write p b).flush

end Go.Proofs.Ytdjndeleafhglaa
namespace Go.Proofs.Ytdjndeleafhglaa

theorem encK_take (K : SU) (p : Int) (x : Sec) : (encK K p x).1.take 504 = textS p x := by
  unfold encK
  exact List.take_left' (textS_length p x)
theorem encK_drop (K : SU) (p : Int) (x : Sec) : (encK K p x).1.drop 504 = (sumK K (textS p x)).1 := by
  unfold encK
  exact List.drop_left' (textS_length p x)
theorem checkK_sum (K : SU) (t : List UInt8) : checkK (sumK K t).2 t (sumK K t).1 = true := by
  cases K with
  | none => simp [checkK, sumK]
  | some U =>
    simp only [sumK, checkK]
    unfold checkU
    rw [sumU_idx]
    simp [sumU_mem]
/-- What is written is read. -/
theorem decK_enc {K : SU} {p : Int} {x : Sec} (h : rightS p x = 0) (hl : x.life < 18446744073709551616) (hg : x.gen < 18446744073709551616) : decK (encK K p x).2 p (encK K p x).1 = (0, x) := by
  unfold decK
  rw [if_neg (by rw [encK_length]; simp), if_neg (show ¬ (encK K p x).1 = blankS from textS_head p x h _), encK_take, encK_drop, ofS_textS h hl hg]
  have := checkK_sum K (textS p x)
  simp only [encK, this, if_true]
/-- .. at its place alone. -/
theorem decK_other {K K' : SU} {p q : Int} {x : Sec} (h : rightS p x = 0) (hpq : q ≠ p) : decK K' q (encK K p x).1 = (11, secZero) := by
  unfold decK
  rw [if_neg (by rw [encK_length]; simp), if_neg (show ¬ (encK K p x).1 = blankS from textS_head p x h _), encK_take, ofS_other h hpq]
/-- Where one thing alone was summed, it alone is read. -/
theorem decK_alone {p : Int} {x : Sec} {b : List UInt8} (hb : b ≠ (encK (some []) p x).1) : (decK (encK (some []) p x).2 p b).1 ≠ 0 := by
  have e2 : (encK (some []) p x).2 = some [textS p x] := by simp [encK, sumK, sumU]
  rw [e2, decK_some]
  intro h0
  rcases decU_cases [textS p x] p b with ⟨y, hy⟩ | ⟨h, _⟩
  · obtain ⟨h1, h2, h3, h4, h5, h6⟩ := decU_ok hy
    have h7 : textS p y = textS p x := by simpa using h5
    apply hb
    have := decU_bytes hy
    rw [this, h7]
    simp [encK, sumK, sumU]
  · exact h h0
theorem decK_alone2 {p : Int} {x : Sec} {b : List UInt8} (hb : b ≠ (encK (some []) p x).1) : ∃ rf, decK (encK (some []) p x).2 p b = (rf, secZero) ∧ rf ≠ 0 := by
  have h0 := decK_alone hb
  have e2 : (encK (some []) p x).2 = some [textS p x] := by simp [encK, sumK, sumU]
  rw [e2, decK_some] at h0 ⊢
  rcases decU_cases [textS p x] p b with ⟨y, hy⟩ | ⟨h, h'⟩
  · rw [hy] at h0; exact absurd rfl h0
  · exact ⟨_, Prod.ext rfl h', h⟩

end Go.Proofs.Ytdjndeleafhglaa
namespace Go.Proofs.Ytdjndeleafhglaa

def rootS (gen : Nat) (key : List UInt8) : Sec := ⟨1, 0, 0, gen, key⟩
/-- Is it the root of a gen? -/
def rootIs (gen : Nat) (x : Sec) : Prop := x.kind = 1 ∧ x.life = 0 ∧ x.seq = 0 ∧ x.gen = gen ∧ x.body.length = 32
instance (gen : Nat) (x : Sec) : Decidable (rootIs gen x) := by unfold rootIs; infer_instance
def rplace (gen : Nat) : Nat := gen % 2

def rputD (D : DS) (K : List (List UInt8)) (gen : Nat) (key : List UInt8) : Int × DS × List (List UInt8) :=
  if key.length ≠ 32 then (4, D, K) else ((stampD D (rplace gen : Int) (encU K (rplace gen : Int) (rootS gen key)).1).1, (stampD D (rplace gen : Int) (encU K (rplace gen : Int) (rootS gen key)).1).2, (encU K (rplace gen : Int) (rootS gen key)).2)
def reraseD (D : DS) (gen : Nat) : Int × DS := stampD D (rplace gen : Int) blankS
/-- What is read of bytes as the key of a gen. -/
def rkeyB (K : List (List UInt8)) (gen : Nat) (b : List UInt8) : List UInt8 × Int := if (decU K (rplace gen : Int) b).1 = 0 ∧ rootIs gen (decU K (rplace gen : Int) b).2 then ((decU K (rplace gen : Int) b).2.body, 0) else ([], 11)
def rgetD (D : DS) (K : List (List UInt8)) (gen : Nat) : List UInt8 × Int := if (readX D (rplace gen : Int)).2 ≠ 0 then ([], (readX D (rplace gen : Int)).2) else rkeyB K gen (readX D (rplace gen : Int)).1
def rblankD (D : DS) (gen : Nat) : Bool × Int := (decide ((readX D (rplace gen : Int)).2 = 0) && decide ((readX D (rplace gen : Int)).1 = blankS), (readX D (rplace gen : Int)).2)
/-- Settling: what is told, and the disk behind it. -/
def rsetD (D : DS) (K : List (List UInt8)) (gen : Nat) : (List UInt8 × Int) × DS :=
  if (rgetD D K gen).2 ≠ 0 then (([], (rgetD D K gen).2), D)
  else if (rblankD D (gen ^^^ 1)).2 = 0 then
    (if (rblankD D (gen ^^^ 1)).1 = true then (rgetD D K gen, D)
     else if (reraseD D (gen ^^^ 1)).1 ≠ 0 then (([], (reraseD D (gen ^^^ 1)).1), (reraseD D (gen ^^^ 1)).2) else (rgetD D K gen, (reraseD D (gen ^^^ 1)).2))
  else (([], (rblankD D (gen ^^^ 1)).2), D)

theorem rplace_lt (gen : Nat) : rplace gen < 2 := Nat.mod_lt _ (by decide)
theorem rplace_xor (gen : Nat) : rplace (gen ^^^ 1) = 1 - rplace gen := by
  unfold rplace
  have := Nat.xor_mod_two_pow (a := gen) (b := 1) (n := 1)
  rw [Nat.pow_one] at this
  rw [this]
  rcases Nat.mod_two_eq_zero_or_one gen with h | h <;> rw [h] <;> rfl
theorem rplace_succ (gen : Nat) : rplace (gen + 1) = 1 - rplace gen := by unfold rplace; omega
theorem xor_lt64 {gen : Nat} (h : gen < 18446744073709551616) : gen ^^^ 1 < 18446744073709551616 := Nat.xor_lt_two_pow (n := 64) (by omega) (by omega)
theorem rootS_right (gen : Nat) {key : List UInt8} (h : key.length = 32) : rightS (rplace gen : Int) (rootS gen key) = 0 := by
  have := rplace_lt gen
  exact rightS_ok.2 ⟨by simp [rootS], by simp [rootS], by omega, by omega, by simp [rootS], by simp [rootS], by simp [rootS, h]⟩

/-- Of a disk where all is calm. -/
theorem rget_calm {D : DS} (h : Calm D) (hn : D.n = 2) (K : List (List UInt8)) (gen : Nat) : rgetD D K gen = rkeyB K gen (D.kept (rplace gen)) := by
  unfold rgetD
  rw [h.read (by rw [hn]; exact rplace_lt gen), if_neg (by simp)]
theorem rblank_calm {D : DS} (h : Calm D) (hn : D.n = 2) (gen : Nat) : rblankD D gen = (decide (D.kept (rplace gen) = blankS), 0) := by
  unfold rblankD
  rw [h.read (by rw [hn]; exact rplace_lt gen)]
  simp
theorem blankS_len : blankS.length = 512 := List.length_replicate
theorem rkey_blank (K : List (List UInt8)) (gen : Nat) : rkeyB K gen blankS = ([], 11) := by
  have h : decU K (rplace gen : Int) blankS = (7, secZero) := by
    unfold decU
    rw [if_neg (by rw [blankS_len]; simp), if_pos rfl]
  unfold rkeyB
  rw [h, if_neg (by simp)]
theorem blank_zeros : blankS = zeros := rfl

/-- What was put is read, by any suite that has seen as much. -/
theorem rkey_put {U V : List (List UInt8)} {gen : Nat} {key : List UInt8} (hk : key.length = 32) (hg : gen < 18446744073709551616) (hV : (encU U (rplace gen : Int) (rootS gen key)).2 <+: V) : rkeyB V gen (encU U (rplace gen : Int) (rootS gen key)).1 = (key, 0) := by
  unfold rkeyB
  rw [decU_enc (rootS_right gen hk) (by simp [rootS]) (by simpa [rootS] using hg) hV, if_pos ⟨rfl, rfl, rfl, rfl, rfl, hk⟩]
  rfl
/-- .. by its gen alone. -/
theorem rkey_other {U V : List (List UInt8)} {gen other : Nat} {key : List UInt8} (hk : key.length = 32) (hg : gen < 18446744073709551616) (hV : (encU U (rplace gen : Int) (rootS gen key)).2 <+: V) (ho : other ≠ gen) (hp : rplace other = rplace gen) :
    rkeyB V other (encU U (rplace gen : Int) (rootS gen key)).1 = ([], 11) := by
  unfold rkeyB
  rw [hp, decU_enc (rootS_right gen hk) (by simp [rootS]) (by simpa [rootS] using hg) hV, if_neg]
  rintro ⟨_, _, _, _, h, _⟩
  exact ho h.symm

/-- Settling a calm disk whose fuse is none: the other place is blank behind it. -/
theorem rset_calm {D : DS} (h : Calm D) (hn : D.n = 2) (hf : D.fuse = -1) (K : List (List UInt8)) (gen : Nat) {key : List UInt8} (hk : rkeyB K gen (D.kept (rplace gen)) = (key, 0)) :
    (rsetD D K gen).1 = (key, 0) ∧ (rsetD D K gen).2.kept = (fun q => if q = 1 - rplace gen then blankS else D.kept q) ∧ Calm (rsetD D K gen).2 ∧ (rsetD D K gen).2.n = 2 := by
  have hg := rget_calm h hn K gen
  rw [hk] at hg
  have hb := rblank_calm h hn (gen ^^^ 1)
  rw [rplace_xor] at hb
  unfold rsetD
  rw [hg, hb, if_neg (by simp), if_pos rfl]
  by_cases hbl : D.kept (1 - rplace gen) = blankS
  · rw [if_pos (by simpa using hbl)]
    refine ⟨rfl, ?_, h, hn⟩
    funext q
    simp only
    split
    · rename_i e; rw [e, hbl]
    · rfl
  · rw [if_neg (by simpa using hbl)]
    have hpl : rplace (gen ^^^ 1) < D.n := by rw [hn]; exact rplace_lt _
    have hs := stamp_calm h (by omega) hpl blankS_len
    unfold reraseD
    cases hs with
    | yes h0 hk hn' hc hf' =>
      rw [if_neg (by simp [h0])]
      refine ⟨rfl, ?_, hc, hn'.trans hn⟩
      simp only
      rw [hk, rplace_xor]
    | no h0 _ _ _ _ hf' => exact absurd hf hf'
theorem rset_bad {D : DS} (h : Calm D) (hn : D.n = 2) (K : List (List UInt8)) (gen : Nat) (hk : rkeyB K gen (D.kept (rplace gen)) = ([], 11)) : rsetD D K gen = (([], 11), D) := by
  have hg := rget_calm h hn K gen
  rw [hk] at hg
  unfold rsetD
  rw [hg, if_pos (by decide)]

/-- Putting where all is calm and the power stays. -/
theorem rput_calm {D : DS} (h : Calm D) (hn : D.n = 2) (hf : D.fuse = -1) (U : List (List UInt8)) (gen : Nat) {key : List UInt8} (hk : key.length = 32) :
    ∃ D1, rputD D U gen key = (0, D1, (encU U (rplace gen : Int) (rootS gen key)).2) ∧ D1.kept = (fun q => if q = rplace gen then (encU U (rplace gen : Int) (rootS gen key)).1 else D.kept q) ∧ Calm D1 ∧ D1.n = 2 ∧ D1.fuse = -1 := by
  have hs := stamp_calm h (by omega) (p := rplace gen) (by rw [hn]; exact rplace_lt gen) (encU_length U (rplace gen : Int) (rootS gen key))
  unfold rputD
  rw [if_neg (by simp [hk])]
  cases hs with
  | yes h0 hk hn' hc hf' => exact ⟨_, by rw [h0], hk, hc, hn'.trans hn, hf' hf⟩
  | no _ _ _ _ _ hf' => exact absurd hf hf'
theorem rerase_calm {D : DS} (h : Calm D) (hn : D.n = 2) (hf : D.fuse = -1) (gen : Nat) :
    ∃ D1, reraseD D gen = (0, D1) ∧ D1.kept = (fun q => if q = rplace gen then blankS else D.kept q) ∧ Calm D1 ∧ D1.n = 2 ∧ D1.fuse = -1 := by
  have hs := stamp_calm h (by omega) (p := rplace gen) (by rw [hn]; exact rplace_lt gen) blankS_len
  unfold reraseD
  cases hs with
  | yes h0 hk hn' hc hf' => exact ⟨_, Prod.ext h0 rfl, hk, hc, hn'.trans hn, hf' hf⟩
  | no _ _ _ _ _ hf' => exact absurd hf hf'
theorem rputD_few {D : DS} {q : Nat} (h : Few D q) (U : List (List UInt8)) (gen : Nat) (key : List UInt8) : Few (rputD D U gen key).2.1 (q + 2) := by
  unfold rputD
  split
  · exact h.mono (by omega)
  · exact h.stamp _ _
theorem rputD_room (D : DS) (U : List (List UInt8)) (gen : Nat) (key : List UInt8) : (rputD D U gen key).2.2.length ≤ U.length + 1 := by
  unfold rputD
  split
  · simp
  · exact sumU_length U _

/-- The power goes while the next root is put, or the one ahead of it erased. -/
theorem rcrash {D1 : DS} {q : Nat} (hc : Calm D1) (hn : D1.n = 2) (hF : Few D1 q) (U : List (List UInt8)) (gen : Nat) {key next : List UInt8} (hk : key.length = 32) (hx : next.length = 32) (hg : gen + 1 < 18446744073709551616)
    (hk1 : D1.kept (rplace gen) = (encU U (rplace gen : Int) (rootS gen key)).1) (fuse : Int) (hfu : fuse ≤ 9223372036854775807) (ks : List Int) (torn at_ : Int) :
    ∃ (f : Int) (D3 : DS) (V : List (List UInt8)), rputD (armD D1 fuse) (encU U (rplace gen : Int) (rootS gen key)).2 (gen + 1) next = (f, D3, V) ∧
      ((f = 12 ∧ ∃ D5, rsetD (restD D3 ks torn at_) V gen = ((key, 0), D5) ∧ rblankD D5 (gen + 1) = (true, 0)) ∨
       (f = 0 ∧ ∃ e D4 D5, reraseD D3 gen = (e, D4) ∧ (e = 0 ∨ e = 12) ∧ rsetD (restD D4 ks torn at_) V (gen + 1) = ((next, 0), D5) ∧ rblankD D5 gen = (true, 0))) := by
  obtain ⟨D2, hD2⟩ : ∃ D2, D2 = armD D1 fuse := ⟨_, rfl⟩
  have hF2 : Few D2 q := hD2 ▸ hF.arm fuse hfu
  have hc2 : Calm D2 := hD2 ▸ ⟨hc.up, hc.idle⟩
  have hn2 : D2.n = 2 := by rw [hD2]; exact hn
  have hk2 : D2.kept = D1.kept := by rw [hD2]; rfl
  rw [← hD2]
  clear hD2
  have hp1 := rplace_lt gen
  have hp2 := rplace_succ gen
  have hpx := rplace_lt (gen + 1)
  have hput : rputD D2 (encU U (rplace gen : Int) (rootS gen key)).2 (gen + 1) next = ((stampD D2 (rplace (gen + 1) : Int) (encU (encU U (rplace gen : Int) (rootS gen key)).2 (rplace (gen + 1) : Int) (rootS (gen + 1) next)).1).1,
      (stampD D2 (rplace (gen + 1) : Int) (encU (encU U (rplace gen : Int) (rootS gen key)).2 (rplace (gen + 1) : Int) (rootS (gen + 1) next)).1).2, (encU (encU U (rplace gen : Int) (rootS gen key)).2 (rplace (gen + 1) : Int) (rootS (gen + 1) next)).2) := by
    unfold rputD; rw [if_neg (by simp [hx])]
  have hpre : (encU U (rplace gen : Int) (rootS gen key)).2 <+: (encU (encU U (rplace gen : Int) (rootS gen key)).2 (rplace (gen + 1) : Int) (rootS (gen + 1) next)).2 := sumU_pre _ _
  have hkey := rkey_put (U := U) (gen := gen) hk (by omega) hpre
  have hnext := rkey_put (U := (encU U (rplace gen : Int) (rootS gen key)).2) (gen := gen + 1) hx hg List.prefix_rfl
  have hst := stamp_calm hc2 hF2.lo (p := rplace (gen + 1)) (by rw [hn2]; exact hpx) (encU_length (encU U (rplace gen : Int) (rootS gen key)).2 (rplace (gen + 1) : Int) (rootS (gen + 1) next))
  have hF3 := hF2.stamp (rplace (gen + 1) : Int) (encU (encU U (rplace gen : Int) (rootS gen key)).2 (rplace (gen + 1) : Int) (rootS (gen + 1) next)).1
  refine ⟨_, _, _, hput, ?_⟩
  rw [← hk1] at hkey
  generalize (encU (encU U (rplace gen : Int) (rootS gen key)).2 (rplace (gen + 1) : Int) (rootS (gen + 1) next)).1 = nb at *
  generalize (encU (encU U (rplace gen : Int) (rootS gen key)).2 (rplace (gen + 1) : Int) (rootS (gen + 1) next)).2 = V at *
  generalize stampD D2 (rplace (gen + 1) : Int) nb = R at *
  obtain ⟨f, D3⟩ := R
  cases hst with
  | no h0 hk hn' hp hd hf =>
    simp only at h0 hk hn' hp
    left
    refine ⟨h0, ?_⟩
    obtain ⟨r1, _, r3, r4, r5⟩ := rest_one hp ks torn at_
    have hs := rset_calm r4 (r3.trans (hn'.trans hn2)) r5 V gen (key := key) (by rw [r1 (rplace gen) (by omega), hk, hk2]; exact hkey)
    obtain ⟨s1, s2, s3, s4⟩ := hs
    refine ⟨_, Prod.ext s1 rfl, ?_⟩
    rw [rblank_calm s3 s4, s2, hp2]
    simp
  | yes h0 hk hn' hc' hf =>
    simp only at h0 hk hn' hc'
    right
    refine ⟨h0, ?_⟩
    have hst2 := stamp_calm hc' hF3.lo (p := rplace gen) (by rw [hn', hn2]; exact hp1) blankS_len
    unfold reraseD
    generalize stampD D3 (rplace gen : Int) blankS = R at hst2 ⊢
    obtain ⟨e, D4⟩ := R
    have key2 : ∀ D5 : DS, Calm D5 → D5.n = 2 → D5.fuse = -1 → D5.kept (rplace (gen + 1)) = nb → ∃ D6, rsetD D5 V (gen + 1) = ((next, 0), D6) ∧ rblankD D6 gen = (true, 0) := fun D5 a1 a2 a3 a4 => by
      obtain ⟨s1, s2, s3, s4⟩ := rset_calm a1 a2 a3 V (gen + 1) (key := next) (by rw [a4]; exact hnext)
      refine ⟨_, Prod.ext s1 rfl, ?_⟩
      rw [rblank_calm s3 s4, s2, hp2]
      have : rplace gen = 1 - (1 - rplace gen) := by omega
      simp only [← this, if_true]
      simp
    have hnb : D3.kept (rplace (gen + 1)) = nb := by rw [hk]; simp
    cases hst2 with
    | yes g0 gk gn gc gf =>
      simp only at g0 gk gn gc
      obtain ⟨r1, r2, r3, r4⟩ := rest_idle gc.idle ks torn at_
      obtain ⟨D6, h6, h7⟩ := key2 _ r3 (r2.trans (gn.trans (hn'.trans hn2))) r4 (by rw [r1, gk]; simp only; rw [if_neg (by omega)]; exact hnb)
      exact ⟨e, D4, D6, rfl, .inl g0, h6, h7⟩
    | no g0 gk gn gp gd gf =>
      simp only at g0 gk gn gp
      obtain ⟨r1, _, r3, r4, r5⟩ := rest_one gp ks torn at_
      obtain ⟨D6, h6, h7⟩ := key2 _ r4 (r3.trans (gn.trans (hn'.trans hn2))) r5 (by rw [r1 _ (by omega), gk]; exact hnb)
      exact ⟨e, D4, D6, rfl, .inr g0, h6, h7⟩

/-- A sector is encoded and put at place i, if it may be. -/
def layD (R : DS × List (List UInt8)) (i : Nat) (x : Sec) : DS × List (List UInt8) := if rightS (i : Int) x = 0 then ((putD R.1 (i : Int) (encU R.2 (i : Int) x).1).2, (encU R.2 (i : Int) x).2) else R
theorem put_calm {D : DS} (h : Calm D) {p : Nat} (hp : p < D.n) {b : List UInt8} (hb : b.length = 512) : putD D (p : Int) b = (0, keepD D p b) ∧ Calm (keepD D p b) := by
  unfold putD
  rw [if_neg (by omega), if_neg (by simp [hb])]
  exact ⟨by simp, h.up, h.idle⟩
theorem layD_ok {D : DS} {U : List (List UInt8)} (h : Calm D) {i : Nat} (hi : i < D.n) (x : Sec) :
    Calm (layD (D, U) i x).1 ∧ (layD (D, U) i x).1.n = D.n ∧ (layD (D, U) i x).1.fuse = D.fuse ∧ U <+: (layD (D, U) i x).2 ∧ (layD (D, U) i x).2.length ≤ U.length + 1 ∧
      (layD (D, U) i x).1.kept = (fun q => if q = i ∧ rightS (i : Int) x = 0 then (encU U (i : Int) x).1 else D.kept q) := by
  unfold layD
  split
  · rename_i hr
    obtain ⟨h1, h2⟩ := put_calm h hi (encU_length U (i : Int) x)
    simp only
    rw [h1]
    refine ⟨h2, rfl, rfl, sumU_pre U _, sumU_length U _, ?_⟩
    funext q
    simp only [keepD, hr, and_true]
  · rename_i hr
    refine ⟨h, rfl, rfl, List.prefix_rfl, by simp, ?_⟩
    funext q
    simp only [hr, and_false, if_false]
theorem layD_few {D : DS} {U : List (List UInt8)} {q : Nat} (h : Few D q) (i : Nat) (x : Sec) : Few (layD (D, U) i x).1 (q + 1) := by
  unfold layD
  split
  · exact h.put _ _
  · exact h.mono (by omega)

end Go.Proofs.Ytdjndeleafhglaa
namespace Go.Proofs.Ytdjndeleafhglaa

def gLeast (a d : Int) : Int := if a < 2 ∨ 4 < a ∨ d < 1 ∨ 3 < d then 0 else d + 2
def gRight (a d l : Int) : Bool := decide (2 ≤ a ∧ a ≤ 4 ∧ 1 ≤ d ∧ d ≤ 3 ∧ d + 2 ≤ l ∧ l ≤ 64)
def gNod (a : Int) : Nat → Int
  | 0 => 0
  | k + 1 => gNod a k + a ^ k
def gNodes (a d l : Int) : Int := if gRight a d l = true then gNod a d.toNat else 0
def gLeaves (a d l : Int) : Int := if gRight a d l = true then a ^ d.toNat else 0
def gPages (a d l : Int) : Int := gNodes a d l + gLeaves a d l
def gSize (a d l : Int) : Int := if gRight a d l = true then 4 + l + 2 * gPages a d l else 0
def gLog (a d l i : Int) : Int := if gRight a d l = false ∨ i < 0 then -1 else 4 + i % l
def gArea (a d l : Int) (n i : Int) : Int := if i < 0 ∨ gPages a d l ≤ i then -1 else 4 + l + n % 2 * gPages a d l + i

theorem gRight_iff {a d l : Int} : gRight a d l = true ↔ 2 ≤ a ∧ a ≤ 4 ∧ 1 ≤ d ∧ d ≤ 3 ∧ d + 2 ≤ l ∧ l ≤ 64 := by simp [gRight]
theorem gRight_no {a d l : Int} : gRight a d l = false ↔ ¬ (2 ≤ a ∧ a ≤ 4 ∧ 1 ≤ d ∧ d ≤ 3 ∧ d + 2 ≤ l ∧ l ≤ 64) := by simp [gRight]

theorem gPow_bd {a : Int} (h2 : 2 ≤ a) (h4 : a ≤ 4) : ∀ k : Nat, k ≤ 3 → 1 ≤ a ^ k ∧ a ^ k ≤ 64 := by
  intro k hk
  obtain rfl | rfl | rfl : a = 2 ∨ a = 3 ∨ a = 4 := by omega
  all_goals
    match k, hk with
    | 0, _ => decide
    | 1, _ => decide
    | 2, _ => decide
    | 3, _ => decide

theorem gNod_bd {a : Int} (h2 : 2 ≤ a) (h4 : a ≤ 4) : ∀ k : Nat, k ≤ 3 → 0 ≤ gNod a k ∧ gNod a k ≤ 21 := by
  intro k hk
  obtain rfl | rfl | rfl : a = 2 ∨ a = 3 ∨ a = 4 := by omega
  all_goals
    match k, hk with
    | 0, _ => decide
    | 1, _ => decide
    | 2, _ => decide
    | 3, _ => decide

theorem gNod_pos {a : Int} (h2 : 2 ≤ a) (h4 : a ≤ 4) : ∀ k : Nat, 1 ≤ k → k ≤ 3 → 1 ≤ gNod a k := by
  intro k h1 hk
  obtain rfl | rfl | rfl : a = 2 ∨ a = 3 ∨ a = 4 := by omega
  all_goals
    match k, hk with
    | 0, _ => omega
    | 1, _ => decide
    | 2, _ => decide
    | 3, _ => decide

theorem gNodes_bd (a d l : Int) : 0 ≤ gNodes a d l ∧ gNodes a d l ≤ 21 := by
  unfold gNodes
  split
  · rename_i h
    obtain ⟨h2, h4, h1, h3, _⟩ := gRight_iff.1 h
    exact gNod_bd h2 h4 _ (by omega)
  · omega
theorem gLeaves_bd (a d l : Int) : 0 ≤ gLeaves a d l ∧ gLeaves a d l ≤ 64 := by
  unfold gLeaves
  split
  · rename_i h
    obtain ⟨h2, h4, h1, h3, _⟩ := gRight_iff.1 h
    have := gPow_bd h2 h4 d.toNat (by omega)
    omega
  · omega
theorem gPages_bd (a d l : Int) : 0 ≤ gPages a d l ∧ gPages a d l ≤ 85 := by
  have h1 := gNodes_bd a d l
  have h2 := gLeaves_bd a d l
  unfold gPages; omega
theorem gPages_no {a d l : Int} (h : gRight a d l = false) : gPages a d l = 0 := by simp [gPages, gNodes, gLeaves, h]
theorem gPages_pos {a d l : Int} (h : gRight a d l = true) : 2 ≤ gPages a d l := by
  obtain ⟨h2, h4, h1, h3, _⟩ := gRight_iff.1 h
  have e1 := gNod_pos h2 h4 d.toNat (by omega) (by omega)
  have e2 := gPow_bd h2 h4 d.toNat (by omega)
  simp only [gPages, gNodes, gLeaves, h, if_true]; omega
theorem gSize_bd (a d l : Int) : 0 ≤ gSize a d l ∧ gSize a d l ≤ 238 := by
  have h1 := gPages_bd a d l
  unfold gSize
  split
  · rename_i h
    obtain ⟨h2, h4, h1, h3, _⟩ := gRight_iff.1 h
    omega
  · omega
theorem gSize_yes {a d l : Int} (h : gRight a d l = true) : gSize a d l = 4 + l + 2 * gPages a d l := by simp [gSize, h]
theorem gSize_no {a d l : Int} (h : gRight a d l = false) : gSize a d l = 0 := by simp [gSize, h]
theorem gLeast_right (a d l : Int) : (0 < gLeast a d ∧ gLeast a d ≤ l ∧ l ≤ 64) ↔ gRight a d l = true := by
  rw [gRight_iff]; unfold gLeast; split <;> omega
theorem gLeast_bd (a d : Int) : 0 ≤ gLeast a d ∧ gLeast a d ≤ 5 := by unfold gLeast; split <;> omega

/-- What stands at a place: 0 the root, 1 the super, 2 the log, 3 the area, 4 nothing; and which one. -/
def gWhere (a d l p : Int) : Int × Int :=
  if p < 0 ∨ gSize a d l ≤ p then (4, 0) else if p < 2 then (0, p) else if p < 4 then (1, p - 2) else if p < 4 + l then (2, p - 4) else (3, p - 4 - l)

end Go.Proofs.Ytdjndeleafhglaa
namespace Go.Proofs.Ytdjndeleafhglaa
open Go.RowKit

set_option maxHeartbeats 400000 in
theorem Least_any (a d l : Int) (w : World) :
    Calls Try.prog 26 #[.agg #[.int .i64 a, .int .i64 d, .int .i64 l]] w fun e w' => e = .returned (.int .i64 (gLeast a d)) ∧ Below w.heap.size w w' := by
  go_enter Try.func26, Try.ntmps26
  go_wp2
  all_goals
    go_ret
    exact ⟨ret_int (by unfold gLeast; first | rw [if_pos (by omega)] | (rw [if_neg (by omega)])), Bbox _ _⟩

set_option maxHeartbeats 400000 in
theorem RLeast_any (a d l : Int) (w : World) :
    Calls Try.prog 27 #[.agg #[.int .i64 a, .int .i64 d, .int .i64 l]] w fun e w' => e = .returned (.int .i64 (gLeast a d)) ∧ Below w.heap.size w w' := by
  go_enter Try.func27, Try.ntmps27
  go_wp2
  all_goals
    go_ret
    exact ⟨ret_int (by unfold gLeast; first | rw [if_pos (by omega)] | (rw [if_neg (by omega)])), Bbox _ _⟩

set_option maxHeartbeats 400000 in
theorem Right_any (a d l : Int) (w : World) :
    Calls Try.prog 24 #[.agg #[.int .i64 a, .int .i64 d, .int .i64 l]] w fun e w' => e = .returned (.bool (gRight a d l)) ∧ Below w.heap.size w w' := by
  have key : ∀ b : Bool, (b = true ↔ (0 < gLeast a d ∧ gLeast a d ≤ l ∧ l ≤ 64)) → b = gRight a d l := fun b h => by rw [Bool.eq_iff_iff, h]; exact gLeast_right a d l
  have Hkey := Lib.hid key; clear key
  go_enter Try.func24, Try.ntmps24
  go_wp2_with (go_at_call 26; refine (Least_any _ _ _ _).mono ?_; rintro e w1 ⟨rfl, hb⟩; obtain ⟨hc, hf⟩ := bcell hb)
  all_goals
    go_ret
    exact ⟨ret_bool (Hkey.out _ (by simp; omega)), Bthen (Bbox _ _) hb⟩

set_option maxHeartbeats 400000 in
theorem RRight_any (a d l : Int) (w : World) :
    Calls Try.prog 25 #[.agg #[.int .i64 a, .int .i64 d, .int .i64 l]] w fun e w' => e = .returned (.bool (gRight a d l)) ∧ Below w.heap.size w w' := by
  have key : ∀ b : Bool, (b = true ↔ (0 < gLeast a d ∧ gLeast a d ≤ l ∧ l ≤ 64)) → b = gRight a d l := fun b h => by rw [Bool.eq_iff_iff, h]; exact gLeast_right a d l
  have Hkey := Lib.hid key; clear key
  have hcw := @BW.cell
  by_cases h1 : 0 < gLeast a d
  · by_cases h2 : gLeast a d ≤ l
    · go_enter Try.func25, Try.ntmps25
      go_wp2
      refine wp_region_below (by kernel_rfl) (by kernel_rfl) ?_
      repeat (quiet_step ((go_at_call 27; exact below_of (RLeast_any _ _ _ _))))
      refine wpQuiet_nil ?_
      rintro _ ⟨x, rfl⟩
      go_wp2
      go_ret
      exact ⟨ret_bool (Hkey.out _ (by simp; try omega)), x.then (Bbox _ _)⟩
    · have d2 : decide (gLeast a d ≤ l) = false := by simpa using h2
      go_enter Try.func25, Try.ntmps25
      go_wp2
      refine wp_region_below (by kernel_rfl) (by kernel_rfl) ?_
      repeat (quiet_step ((go_at_call 27; exact below_of (RLeast_any _ _ _ _))))
      refine wpQuiet_nil ?_
      rintro _ ⟨x, rfl⟩
      go_wp2
      go_ret
      exact ⟨ret_bool (Hkey.out _ (by simp; try omega)), x.then (Bbox _ _)⟩
  · have d1 : decide (0 < gLeast a d) = false := by simpa using h1
    go_enter Try.func25, Try.ntmps25
    go_wp2
    refine wp_region_below (by kernel_rfl) (by kernel_rfl) ?_
    repeat (quiet_step ((go_at_call 27; exact below_of (RLeast_any _ _ _ _))))
    refine wpQuiet_nil ?_
    rintro _ ⟨x, rfl⟩
    go_wp2
    go_ret
    exact ⟨ret_bool (Hkey.out _ (by simp; try omega)), x.then (Bbox _ _)⟩

set_option maxHeartbeats 400000 in
theorem levels_no (a d l : Int) (w : World) (hr : gRight a d l = false) :
    Calls Try.prog 129 #[.agg #[.int .i64 a, .int .i64 d, .int .i64 l]] w fun e w' => e = .returned (.tuple #[.int .i64 0, .int .i64 0]) ∧ Below w.heap.size w w' := by
  go_enter Try.func129, Try.ntmps129
  go_wp2_with (go_at_call 24; refine (Right_any _ _ _ _).mono ?_; rintro e w1 ⟨rfl, hb⟩; obtain ⟨hc, hf⟩ := bcell hb)
  go_ret2
  exact ⟨rfl, Bthen (Bbox _ _) hb⟩

set_option maxHeartbeats 400000 in
theorem levels_yes (a d l : Int) (w : World) (hr : gRight a d l = true) :
    Calls Try.prog 129 #[.agg #[.int .i64 a, .int .i64 d, .int .i64 l]] w fun e w' => e = .returned (.tuple #[.int .i64 (gNod a d.toNat), .int .i64 (a ^ d.toNat)]) ∧ Below w.heap.size w w' := by
  obtain ⟨h2, h4, h1, h3, _⟩ := gRight_iff.1 hr
  go_enter Try.func129, Try.ntmps129
  go_wp2_with (go_at_call 24; refine (Right_any _ _ _ _).mono ?_; rintro e w1 ⟨rfl, hb⟩; obtain ⟨hc, hf⟩ := bcell hb)
  go_loop [2, 3, 9] (fun n m i => ∃ k : Nat, (k : Int) ≤ d ∧ i = .int .i64 k ∧ n = .int .i64 (gNod a k) ∧ m = .int .i64 (a ^ k)) (fun _ _ i => (d - intOf i).toNat)
  case atStart => exact ⟨0, by omega, rfl, rfl, by rw [Int.pow_zero]⟩
  case round =>
    obtain ⟨k, hk, rfl, rfl, rfl⟩ := hrel
    have b1 := gNod_bd h2 h4 k (by omega)
    have b2 := gPow_bd h2 h4 k (by omega)
    by_cases hlt : (k : Int) < d
    · have b3 := gPow_bd h2 h4 (k + 1) (by omega)
      rw [Int.pow_succ] at b3
      obtain ⟨b4, b5⟩ := b3
      go_wp2
      go_round
      case rel => exact ⟨k + 1, by omega, by go_num, rfl, by rw [Int.pow_succ]⟩
      case measure => simp [intOf]; omega
    · have hkd : d.toNat = k := by omega
      go_wp2
      go_ret2
      exact ⟨ret_ii rfl rfl, Bthen (Bbox _ _) hb⟩

/-- Both answers of 'levels' at once. -/
theorem levels_any (a d l : Int) (w : World) :
    Calls Try.prog 129 #[.agg #[.int .i64 a, .int .i64 d, .int .i64 l]] w fun e w' => e = .returned (.tuple #[.int .i64 (gNodes a d l), .int .i64 (gLeaves a d l)]) ∧ Below w.heap.size w w' := by
  cases hr : gRight a d l with
  | true => exact (levels_yes a d l w hr).mono fun e w' ⟨h, hb⟩ => ⟨by rw [h]; simp [gNodes, gLeaves, hr], hb⟩
  | false => exact (levels_no a d l w hr).mono fun e w' ⟨h, hb⟩ => ⟨by rw [h]; simp [gNodes, gLeaves, hr], hb⟩

set_option maxHeartbeats 400000 in
theorem Nodes_any (a d l : Int) (w : World) :
    Calls Try.prog 28 #[.agg #[.int .i64 a, .int .i64 d, .int .i64 l]] w fun e w' => e = .returned (.int .i64 (gNodes a d l)) ∧ Below w.heap.size w w' := by
  have b1 := gNodes_bd a d l
  have b2 := gLeaves_bd a d l
  go_enter Try.func28, Try.ntmps28
  go_wp2_with (go_at_call 129; refine (levels_any _ _ _ _).mono ?_; rintro e w1 ⟨rfl, hb⟩)
  go_ret
  exact ⟨ret_int rfl, Bthen (Bbox _ _) hb⟩

set_option maxHeartbeats 400000 in
theorem Leaves_any (a d l : Int) (w : World) :
    Calls Try.prog 30 #[.agg #[.int .i64 a, .int .i64 d, .int .i64 l]] w fun e w' => e = .returned (.int .i64 (gLeaves a d l)) ∧ Below w.heap.size w w' := by
  have b1 := gNodes_bd a d l
  have b2 := gLeaves_bd a d l
  go_enter Try.func30, Try.ntmps30
  go_wp2_with (go_at_call 129; refine (levels_any _ _ _ _).mono ?_; rintro e w1 ⟨rfl, hb⟩)
  go_ret
  exact ⟨ret_int rfl, Bthen (Bbox _ _) hb⟩

set_option maxHeartbeats 400000 in
theorem Pages_any (a d l : Int) (w : World) :
    Calls Try.prog 32 #[.agg #[.int .i64 a, .int .i64 d, .int .i64 l]] w fun e w' => e = .returned (.int .i64 (gPages a d l)) ∧ Below w.heap.size w w' := by
  have b1 := gNodes_bd a d l
  have b2 := gLeaves_bd a d l
  go_enter Try.func32, Try.ntmps32
  go_wp2_with (go_at_call 129; refine (levels_any _ _ _ _).mono ?_; rintro e w1 ⟨rfl, hb⟩)
  go_ret
  exact ⟨ret_int rfl, Bthen (Bbox _ _) hb⟩

set_option maxHeartbeats 400000 in
theorem parts_any (a d l : Int) (w : World) :
    Calls Try.prog 130 #[.agg #[.int .i64 a, .int .i64 d, .int .i64 l]] w fun e w' => e = .returned (.agg #[.string ⟨#[114, 111, 111, 116]⟩, .int .i64 2, .string ⟨#[115, 117, 112, 101, 114]⟩, .int .i64 2, .string ⟨#[108, 111, 103]⟩, .int .i64 l, .string ⟨#[97, 114, 101, 97]⟩, .int .i64 (2 * gPages a d l)]) ∧ Below w.heap.size w w' := by
  have b1 := gPages_bd a d l
  have hw2 : IntKind.i64.wrap (2 * gPages a d l) = 2 * gPages a d l := IntWalk.i64_in _ (by omega)
  go_enter Try.func130, Try.ntmps130
  go_wp2
  refine wp_region_in (BelowW _) [(0, true), (1, true), (2, true), (3, true), (4, true), (5, true), (6, false), (7, true), (8, true), (9, true), (10, false)] (by kernel_rfl) (by kernel_rfl) (fun _ _ _ _ _ h => h) (inB_drew _) (fun hne => ?_)
  have hcx := @inB_cell
  simp only [permOps, List.map_cons, List.map_nil, List.getD_cons_zero, List.getD_cons_succ]
  (repeat ((with_reducible refine wpPerm_F ?_); intro K hK; go_simp; refine hK _ _ ?_; clear hK K))
  (with_reducible refine wpPerm_E rfl ?_); intro K hK
  go_wp2_with (go_at_call 32; refine (Pages_any _ _ _ _).mono ?_; rintro e w1 ⟨rfl, hb⟩)
  refine ⟨inB_step (inB_drew _) hb, ?_⟩
  obtain ⟨hc, hf⟩ := bcell hb
  (repeat ((with_reducible refine wpPerm_F ?_); intro K hK; go_simp; refine hK _ _ ?_; clear hK K))
  (with_reducible refine wpPerm_L rfl ?_); intro K hK
  clear hcx hw2
  go_wp2
  have hz := hb.size
  refine bodyPost_ret (v := .agg #[.string ⟨#[114, 111, 111, 116]⟩, .int .i64 2, .string ⟨#[115, 117, 112, 101, 114]⟩, .int .i64 2, .string ⟨#[108, 111, 103]⟩, .int .i64 l, .string ⟨#[97, 114, 101, 97]⟩, .int .i64 (2 * gPages a d l)]) ?_ rfl ⟨rfl, ?_⟩
  · simp [results, Try.results130, go_sem, hc]
  · ((repeat (first | (with_reducible exact Bnil _) | (with_reducible assumption) | (with_reducible refine Bset ?_ ?_ _) | (with_reducible refine Bnew ?_ _) | (with_reducible refine Bdrew ?_) | (with_reducible refine Bthen ?_ (by assumption)))); all_goals (simp; try omega))

end Go.Proofs.Ytdjndeleafhglaa
namespace Go.Proofs.Ytdjndeleafhglaa
open Go.RowKit

theorem part0 (l q : Int) (w : World) : (Instr.index 166 (.agg #[.string ⟨#[114, 111, 111, 116]⟩, .int .i64 2, .string ⟨#[115, 117, 112, 101, 114]⟩, .int .i64 2, .string ⟨#[108, 111, 103]⟩, .int .i64 l, .string ⟨#[97, 114, 101, 97]⟩, .int .i64 q]) (.int .i64 0)).run Try.prog w = .ok (.agg #[.string ⟨#[114, 111, 111, 116]⟩, .int .i64 2]) w := by kernel_rfl
theorem part1 (l q : Int) (w : World) : (Instr.index 166 (.agg #[.string ⟨#[114, 111, 111, 116]⟩, .int .i64 2, .string ⟨#[115, 117, 112, 101, 114]⟩, .int .i64 2, .string ⟨#[108, 111, 103]⟩, .int .i64 l, .string ⟨#[97, 114, 101, 97]⟩, .int .i64 q]) (.int .i64 1)).run Try.prog w = .ok (.agg #[.string ⟨#[115, 117, 112, 101, 114]⟩, .int .i64 2]) w := by kernel_rfl
theorem part2 (l q : Int) (w : World) : (Instr.index 166 (.agg #[.string ⟨#[114, 111, 111, 116]⟩, .int .i64 2, .string ⟨#[115, 117, 112, 101, 114]⟩, .int .i64 2, .string ⟨#[108, 111, 103]⟩, .int .i64 l, .string ⟨#[97, 114, 101, 97]⟩, .int .i64 q]) (.int .i64 2)).run Try.prog w = .ok (.agg #[.string ⟨#[108, 111, 103]⟩, .int .i64 l]) w := by kernel_rfl
theorem part3 (l q : Int) (w : World) : (Instr.index 166 (.agg #[.string ⟨#[114, 111, 111, 116]⟩, .int .i64 2, .string ⟨#[115, 117, 112, 101, 114]⟩, .int .i64 2, .string ⟨#[108, 111, 103]⟩, .int .i64 l, .string ⟨#[97, 114, 101, 97]⟩, .int .i64 q]) (.int .i64 3)).run Try.prog w = .ok (.agg #[.string ⟨#[97, 114, 101, 97]⟩, .int .i64 q]) w := by kernel_rfl

set_option maxHeartbeats 400000 in
theorem Size_no (a d l : Int) (w : World) (hr : gRight a d l = false) :
    Calls Try.prog 34 #[.agg #[.int .i64 a, .int .i64 d, .int .i64 l]] w fun e w' => e = .returned (.int .i64 0) ∧ Below w.heap.size w w' := by
  go_enter Try.func34, Try.ntmps34
  go_wp2_with (go_at_call 24; refine (Right_any _ _ _ _).mono ?_; rintro e w1 ⟨rfl, hb⟩; obtain ⟨hc, hf⟩ := bcell hb)
  go_ret
  exact ⟨ret_int rfl, Bthen (Bbox _ _) hb⟩

set_option maxHeartbeats 1000000 in
theorem Size_yes (a d l : Int) (w : World) (hr : gRight a d l = true) :
    Calls Try.prog 34 #[.agg #[.int .i64 a, .int .i64 d, .int .i64 l]] w fun e w' => e = .returned (.int .i64 (4 + l + 2 * gPages a d l)) ∧ Below w.heap.size w w' := by
  have b1 := gPages_bd a d l
  obtain ⟨h2, h4, h1, h3, _⟩ := gRight_iff.1 hr
  go_enter Try.func34, Try.ntmps34
  go_wp2_with (go_at_call 24; refine (Right_any _ _ _ _).mono ?_; rintro e w1 ⟨rfl, hb⟩; obtain ⟨hc, hf⟩ := bcell hb)
  refine (parts_any _ _ _ _).mono ?_
  rintro e w2 ⟨rfl, hb2⟩
  have hs2 := hb2.size
  have hs1 := hb.size
  have i0 := part0 l (2 * gPages a d l)
  have i1 := part1 l (2 * gPages a d l)
  have i2 := part2 l (2 * gPages a d l)
  have i3 := part3 l (2 * gPages a d l)
  go_wp2_with fail
  refine wp_loop_rounds 5 ?_
  iterate 5 (rw [rounds_succ]; go_wp2_with fail)
  go_ret
  exact ⟨ret_int (by omega), by ((repeat (first | (with_reducible exact Bnil _) | (with_reducible assumption) | (with_reducible refine Bset ?_ ?_ _) | (with_reducible refine Bnew ?_ _) | (with_reducible refine Bdrew ?_) | (with_reducible refine Bthen ?_ (by assumption)))); all_goals (simp; try omega))⟩

theorem Size_any (a d l : Int) (w : World) :
    Calls Try.prog 34 #[.agg #[.int .i64 a, .int .i64 d, .int .i64 l]] w fun e w' => e = .returned (.int .i64 (gSize a d l)) ∧ Below w.heap.size w w' := by
  cases hr : gRight a d l with
  | true => rw [gSize_yes hr]; exact Size_yes a d l w hr
  | false => rw [gSize_no hr]; exact Size_no a d l w hr

set_option maxHeartbeats 400000 in
theorem Root_any (n : Int) (w : World) (h0 : 0 ≤ n) (h1 : n < 18446744073709551616) :
    Calls Try.prog 37 #[.int .u64 n] w fun e w' => e = .returned (.int .i64 (n % 2)) ∧ w = w' := by
  go_enter Try.func37, Try.ntmps37
  go_wp2
  go_ret
  exact ⟨ret_int (by go_num), rfl⟩

set_option maxHeartbeats 400000 in
theorem Super_any (n : Int) (w : World) (h0 : 0 ≤ n) (h1 : n < 18446744073709551616) :
    Calls Try.prog 38 #[.int .u64 n] w fun e w' => e = .returned (.int .i64 (2 + n % 2)) ∧ w = w' := by
  go_enter Try.func38, Try.ntmps38
  go_wp2
  go_ret
  exact ⟨ret_int (by go_num), rfl⟩

end Go.Proofs.Ytdjndeleafhglaa
namespace Go.Proofs.Ytdjndeleafhglaa
open Go.RowKit

section
variable {w : World} {d u m q : Nat} {D : DS} {U : List (List UInt8)} {S : Nat → Prop}

theorem RWrite1_c (x0 x1 x2 : Nat) (p : Int) (A : Option Addr) (n c : Nat) (b : List UInt8) (h : Duo w d u m D U S) (hF : Few D q) (hq : q ≤ 300000) (hb : BytesAt w A n b) (hA : 0 < n → ∀ g o, A = some ⟨g, o, none⟩ → ¬ S g)
    (h0 : w.cell? ⟨x0, 0, none⟩ = some (.pointer (some ⟨d, 0, none⟩))) (h1 : w.cell? ⟨x1, 0, none⟩ = some (.int .i64 p)) (h2 : w.cell? ⟨x2, 0, none⟩ = some (.slice A n c)) :
    Calls Try.prog 190 #[.pointer (some ⟨x0, 0, none⟩), .pointer (some ⟨x1, 0, none⟩), .pointer (some ⟨x2, 0, none⟩)] w fun e w' => e = .returned (.int .i64 (writeD D p b).1) ∧ Turn2 S d u m (writeD D p b).2 U w w' := by
  have hw := h.write p A n c b hF (by omega) hb hA
  have Hw := Lib.hid hw; clear hw h hF hb hA
  go_enter Try.func190, Try.ntmps190
  go_wp2_with fail
  refine Hw.out.mono ?_; rintro e w1 ⟨rfl, ht⟩
  go_wp2_with fail
  go_ret
  exact ⟨rfl, ht⟩

theorem todo0 (a b c f : Value) (w : World) : (Instr.index 260 (.agg #[.func (.func 190) #[] #[a, b, c], .func (.func 81) #[f] #[]]) (.int .i64 0)).run Try.prog w = .ok (.func (.func 190) #[] #[a, b, c]) w := by kernel_rfl
theorem todo1 (a b c f : Value) (w : World) : (Instr.index 260 (.agg #[.func (.func 190) #[] #[a, b, c], .func (.func 81) #[f] #[]]) (.int .i64 1)).run Try.prog w = .ok (.func (.func 81) #[f] #[]) w := by kernel_rfl

set_option maxRecDepth 100000 in
set_option maxHeartbeats 1000000 in
theorem RWrite_c (gen : Nat) (A : Option Addr) (n c : Nat) (b : List UInt8) (h : Duo w d u m D U S) (hF : Few D q) (hq : q ≤ 300000) (hg : gen < 18446744073709551616) (hb : BytesAt w A n b) (hA : 0 < n → ∀ g o, A = some ⟨g, o, none⟩ → ¬ S g) :
    Calls Try.prog 159 #[.pointer (some ⟨d, 0, none⟩), .int .u64 (gen : Int), .slice A n c] w fun e w' => e = .returned (.int .i64 (stampD D (rplace gen : Int) b).1) ∧ Turn2 S d u m (stampD D (rplace gen : Int) b).2 U w w' := by
  have hr := fun W => Root_any (gen : Int) W (by omega) (by omega)
  rw [show (gen : Int) % 2 = (rplace gen : Int) by unfold rplace; omega] at hr
  have Hr := Lib.hid hr; clear hr
  have Hd := Lib.hid h; clear h
  have Hb := Lib.hid hb; clear hb
  have HA := Lib.hid hA; clear hA
  have hlt := Hd.out.lt
  have Hlt := Lib.hid hlt; clear hlt
  have i0 := todo0
  have i1 := todo1
  generalize rplace gen = p at Hr ⊢
  have hw := fun W (hB : Below w.heap.size w W) => RWrite1_c (w := W) w.heap.size (w.heap.size + 1 + 1) (w.heap.size + 1) (p : Int) A n c b (Hd.out.below hB) hF hq (Hb.out.below hB) HA.out
  have hF2 := hF.write (p : Int) b
  unfold stampD
  generalize writeD D (p : Int) b = R at hw hF2 ⊢
  have Hw := Lib.hid hw; clear hw
  go_enter Try.func159, Try.ntmps159
  go_wp2_with fail
  go_step3
  go_wp2_with fail
  refine (Hr.out _).mono ?_; rintro e w1 ⟨rfl, rfl⟩
  go_wp2_with fail
  go_step3
  go_wp2_with fail
  have hB : Below w.heap.size w ((((w.alloc (.cells #[.pointer (some ⟨d, 0, none⟩)] 36)).alloc (.cells #[.slice A n c] 41)).alloc (.cells #[.int .i64 (p : Int)] 3)).alloc (.cells #[.func (.func 190) #[] #[.pointer (some ⟨w.heap.size, 0, none⟩), .pointer (some ⟨w.heap.size + 1 + 1, 0, none⟩), .pointer (some ⟨w.heap.size + 1, 0, none⟩)], .func (.func 81) #[.pointer (some ⟨d, 0, none⟩)] #[]] 260)) := by ((repeat (first | (with_reducible exact Bnil _) | (with_reducible assumption) | (with_reducible refine Bset ?_ ?_ _) | (with_reducible refine Bnew ?_ _) | (with_reducible refine Bdrew ?_) | (with_reducible refine Bthen ?_ (by assumption)))); all_goals (simp; try omega))
  have c0 : ((((w.alloc (.cells #[.pointer (some ⟨d, 0, none⟩)] 36)).alloc (.cells #[.slice A n c] 41)).alloc (.cells #[.int .i64 (p : Int)] 3)).alloc (.cells #[.func (.func 190) #[] #[.pointer (some ⟨w.heap.size, 0, none⟩), .pointer (some ⟨w.heap.size + 1 + 1, 0, none⟩), .pointer (some ⟨w.heap.size + 1, 0, none⟩)], .func (.func 81) #[.pointer (some ⟨d, 0, none⟩)] #[]] 260)).cell? ⟨w.heap.size, 0, none⟩ = some (.pointer (some ⟨d, 0, none⟩)) := by go_simp
  have c1 : ((((w.alloc (.cells #[.pointer (some ⟨d, 0, none⟩)] 36)).alloc (.cells #[.slice A n c] 41)).alloc (.cells #[.int .i64 (p : Int)] 3)).alloc (.cells #[.func (.func 190) #[] #[.pointer (some ⟨w.heap.size, 0, none⟩), .pointer (some ⟨w.heap.size + 1 + 1, 0, none⟩), .pointer (some ⟨w.heap.size + 1, 0, none⟩)], .func (.func 81) #[.pointer (some ⟨d, 0, none⟩)] #[]] 260)).cell? ⟨w.heap.size + 1 + 1, 0, none⟩ = some (.int .i64 (p : Int)) := by go_simp
  have c2 : ((((w.alloc (.cells #[.pointer (some ⟨d, 0, none⟩)] 36)).alloc (.cells #[.slice A n c] 41)).alloc (.cells #[.int .i64 (p : Int)] 3)).alloc (.cells #[.func (.func 190) #[] #[.pointer (some ⟨w.heap.size, 0, none⟩), .pointer (some ⟨w.heap.size + 1 + 1, 0, none⟩), .pointer (some ⟨w.heap.size + 1, 0, none⟩)], .func (.func 81) #[.pointer (some ⟨d, 0, none⟩)] #[]] 260)).cell? ⟨w.heap.size + 1, 0, none⟩ = some (.slice A n c) := by go_simp
  generalize (((w.alloc (.cells #[.pointer (some ⟨d, 0, none⟩)] 36)).alloc (.cells #[.slice A n c] 41)).alloc (.cells #[.int .i64 (p : Int)] 3)).alloc (.cells #[.func (.func 190) #[] #[.pointer (some ⟨w.heap.size, 0, none⟩), .pointer (some ⟨w.heap.size + 1 + 1, 0, none⟩), .pointer (some ⟨w.heap.size + 1, 0, none⟩)], .func (.func 81) #[.pointer (some ⟨d, 0, none⟩)] #[]] 260) = W at hB c0 c1 c2 ⊢
  have Hw1 := Lib.hid (Hw.out W hB c0 c1 c2); clear c0 c1 c2
  refine wp_loop_rounds 3 ?_
  rw [rounds_succ]
  go_wp2_with fail
  refine Hw1.out.mono ?_; rintro e w2 ⟨rfl, ht⟩
  obtain ⟨rf, D2⟩ := R
  by_cases hz : rf = 0
  · subst hz
    obtain ⟨S2, hd2, hf2, hS2⟩ := ht
    have hfl := hd2.flush hF2 (by omega)
    obtain ⟨⟨rf2, D3⟩, hR2⟩ : ∃ R2, flushD D2 = R2 := ⟨_, rfl⟩
    rw [hR2] at hfl
    have HR2 := Lib.hid hR2; clear hR2
    have Hfl := Lib.hid hfl; clear hfl
    go_wp2_with fail
    rw [rounds_succ]
    go_wp2_with fail
    refine Hfl.out.mono ?_; rintro e w3 ⟨rfl, ht3⟩
    have ht4 := (Turn2.comp hf2 hS2 ht3).after hB
    by_cases hz2 : rf2 = 0
    · subst hz2
      go_wp2_with fail
      rw [rounds_succ]
      go_wp2_with fail
      rw [Exit.noGoto_ret]
      go_ret
      exact ⟨by simp [HR2.out], by simpa [HR2.out] using ht4⟩
    · go_wp2_with fail
      rw [Exit.noGoto_ret]
      go_ret
      exact ⟨by simp [HR2.out], by simpa [HR2.out] using ht4⟩
  · go_wp2_with fail
    rw [Exit.noGoto_ret]
    go_ret
    exact ⟨by simp [hz], by simpa [hz] using ht.after hB⟩

set_option maxRecDepth 100000 in
set_option maxHeartbeats 1000000 in
theorem RPut_c (gen : Nat) (A : Option Addr) (c : Nat) (key : List UInt8) (h : Duo w d u m D U S) (hF : Few D q) (hq : q ≤ 300000) (hU : U.length ≤ 300000) (hg : gen < 18446744073709551616) (hb : BytesAt w A key.length key) :
    Calls Try.prog 85 #[.pointer (some ⟨d, 0, none⟩), .pointer (some ⟨u, 0, none⟩), .int .u64 (gen : Int), .slice A key.length c] w fun e w' => e = .returned (.int .i64 (rputD D U gen key).1) ∧ Turn2 S d u m (rputD D U gen key).2.1 (rputD D U gen key).2.2 w w' := by
  unfold rputD
  by_cases hk : key.length = 32
  · rw [if_neg (by simp [hk])]
    have hr := fun W => Root_any (gen : Int) W (by omega) (by omega)
    rw [show (gen : Int) % 2 = (rplace gen : Int) by unfold rplace; omega] at hr
    have henc := h.encode (rplace gen : Int) (rootS gen key) A c (rootS_right gen hk) hb (by omega)
    have hlt := h.lt
    have hlen := encU_length U (rplace gen : Int) (rootS gen key)
    unfold secV at henc
    simp only [rootS] at henc
    rw [hk] at henc ⊢
    simp only [rootS] at henc hlen ⊢
    generalize encU U (rplace gen : Int) ⟨1, 0, 0, gen, key⟩ = R at henc hlen ⊢
    obtain ⟨b, V⟩ := R
    simp only at henc hlen ⊢
    have hwr := fun (W : World) (B : Option Addr) (cb : Nat) (h2 : Duo W d u m D V S) (hb2 : BytesAt W B 512 b) (hB : 0 < 512 → ∀ g o, B = some ⟨g, o, none⟩ → ¬ S g) => RWrite_c gen B 512 cb b h2 hF hq hg hb2 hB
    generalize stampD D (rplace gen : Int) b = R2 at hwr ⊢
    have Hr := Lib.hid hr; clear hr
    have Henc := Lib.hid henc; clear henc
    have Hwr := Lib.hid hwr; clear hwr
    have Hlt := Lib.hid hlt; clear hlt
    clear h hF hb
    go_enter Try.func85, Try.ntmps85
    go_wp2_with fail
    refine (Hr.out _).mono ?_; rintro e w1 ⟨rfl, rfl⟩
    go_wp2_with fail
    refine Henc.out.mono ?_; rintro e w1 ⟨A1, c1, rfl, hown, hd1, hf1⟩
    have hw1 := Hwr.out w1 A1 c1 hd1 (BytesAt.own hown) (fun _ g o e hs => by
      have h1 := Hlt.out g hs
      have h2 := (hown.lt g (by rw [e]; rfl)).1
      omega)
    have Hw1 := Lib.hid hw1; clear hw1 hown
    go_wp2_with fail
    refine Hw1.out.mono ?_; rintro e w2 ⟨rfl, ht⟩
    go_wp2_with fail
    go_ret
    exact ⟨rfl, Turn2.comp hf1 (fun _ h => .inl h) ht⟩
  · rw [if_pos (by simpa using hk)]
    have hk' : ¬ (key.length : Int) = 32 := by omega
    go_enter Try.func85, Try.ntmps85
    go_wp2_with fail
    go_ret
    exact ⟨rfl, Turn2.still h⟩

set_option maxRecDepth 100000 in
set_option maxHeartbeats 1000000 in
theorem RErase_c (gen : Nat) (h : Duo w d u m D U S) (hF : Few D q) (hq : q ≤ 300000) (hg : gen < 18446744073709551616) :
    Calls Try.prog 87 #[.pointer (some ⟨d, 0, none⟩), .int .u64 (gen : Int)] w fun e w' => e = .returned (.int .i64 (reraseD D gen).1) ∧ Turn2 S d u m (reraseD D gen).2 U w w' := by
  have hlt := h.lt
  have Hlt := Lib.hid hlt; clear hlt
  have Hd := Lib.hid h; clear h
  go_enter Try.func87, Try.ntmps87
  go_wp2_with fail
  refine (Blank_at _).mono ?_; rintro e w1 ⟨rfl, hblk, hb1⟩
  have hb := BytesAt.of_block 512 blankS_len hblk
  have Hw := Lib.hid (RWrite_c gen _ 512 512 blankS (Hd.out.below hb1) hF hq hg hb (fun _ g o e hs => by cases e; have := Hlt.out _ hs; omega))
  clear hblk hb
  go_wp2_with fail
  refine Hw.out.mono ?_; rintro e w2 ⟨rfl, ht⟩
  go_wp2_with fail
  go_ret
  exact ⟨rfl, ht.after hb1⟩

set_option maxRecDepth 100000 in
set_option maxHeartbeats 1000000 in
theorem RBlank_c (gen : Nat) (h : Duo w d u m D U S) (hg : gen < 18446744073709551616) :
    Calls Try.prog 88 #[.pointer (some ⟨d, 0, none⟩), .int .u64 (gen : Int)] w fun e w' => e = .returned (.tuple #[.bool (rblankD D gen).1, .int .i64 (rblankD D gen).2]) ∧ Below w.heap.size w w' := by
  have hr := fun W => Root_any (gen : Int) W (by omega) (by omega)
  rw [show (gen : Int) % 2 = (rplace gen : Int) by unfold rplace; omega] at hr
  have hrd := h.read (rplace gen : Int)
  unfold rblankD
  generalize readX D (rplace gen : Int) = R at hrd ⊢
  obtain ⟨b, f⟩ := R
  simp only at hrd ⊢
  have Hr := Lib.hid hr; clear hr
  have Hrd := Lib.hid hrd; clear hrd h
  by_cases hf : f = 0
  · subst hf
    go_enter Try.func88, Try.ntmps88
    go_wp2_with fail
    refine (Hr.out _).mono ?_; rintro e w1 ⟨rfl, rfl⟩
    go_wp2_with fail
    refine Hrd.out.mono ?_; rintro e w1 ⟨A1, c1, rfl, hb, hc, hl, hb1⟩
    have Hi := Lib.hid (IsBlank_any A1 _ c1 _ w1 hb hc (by omega))
    clear hb hc hl
    go_wp2_with fail
    refine Hi.out.mono ?_; rintro e w2 ⟨rfl, hb2⟩
    go_wp2_with fail
    go_ret2
    exact ⟨by simp, Bthen hb1 hb2⟩
  · go_enter Try.func88, Try.ntmps88
    go_wp2_with fail
    refine (Hr.out _).mono ?_; rintro e w1 ⟨rfl, rfl⟩
    go_wp2_with fail
    refine Hrd.out.mono ?_; rintro e w1 ⟨A1, c1, rfl, hb, hc, hl, hb1⟩
    clear hb hc hl
    go_wp2_with fail
    go_ret2
    exact ⟨by simp [hf], hb1⟩

/-- Is it the root of a gen? -/
theorem RMine_any (x : Sec) (A : Option Addr) (c : Nat) (f : Int) (gen : Nat) (xf xs xg : Nat) (h0 : w.cell? ⟨xf, 0, none⟩ = some (.int .i64 f)) (h1 : w.heap[xs]? = some (.cells #[.int .i64 x.kind, .int .u64 (x.life : Int), .int .i64 x.seq, .int .u64 (x.gen : Int), .slice A x.body.length c] 54 (0, 0)))
    (h2 : w.cell? ⟨xg, 0, none⟩ = some (.int .u64 (gen : Int))) :
    Calls Try.prog 160 #[.pointer (some ⟨xf, 0, none⟩), .pointer (some ⟨xs, 0, none⟩), .pointer (some ⟨xg, 0, none⟩)] w fun e w' => e = .returned (.bool (decide (f = 0 ∧ rootIs gen x))) ∧ w = w' := by
  obtain ⟨s0, s1, s2, s3, s4, sf⟩ := cells5 h1
  unfold rootIs
  by_cases e0 : f = 0
  case neg => 
    go_enter Try.func160, Try.ntmps160
    go_wp2_with fail
    go_ret
    exact ⟨ret_bool (by simp [e0]), rfl⟩
  by_cases e1 : x.kind = 1
  case neg => 
    go_enter Try.func160, Try.ntmps160
    go_wp2_with fail
    go_ret
    exact ⟨ret_bool (by simp [e1]), rfl⟩
  by_cases e2 : x.life = 0
  case neg => 
    have e2' : ¬ ((x.life : Int) = 0) := by omega
    go_enter Try.func160, Try.ntmps160
    go_wp2_with fail
    go_ret
    exact ⟨ret_bool (by simp [e2]), rfl⟩
  by_cases e3 : x.seq = 0
  case neg => 
    go_enter Try.func160, Try.ntmps160
    go_wp2_with fail
    go_ret
    exact ⟨ret_bool (by simp [e3]), rfl⟩
  by_cases e4 : x.gen = gen
  case neg => 
    have e4' : ¬ ((x.gen : Int) = (gen : Int)) := by omega
    go_enter Try.func160, Try.ntmps160
    go_wp2_with fail
    go_ret
    exact ⟨ret_bool (by simp [e4]), rfl⟩
  by_cases e5 : x.body.length = 32
  case neg => 
    have e5' : ¬ ((x.body.length : Int) = 32) := by omega
    go_enter Try.func160, Try.ntmps160
    go_wp2_with fail
    go_ret
    exact ⟨ret_bool (by simp [e5]; omega), rfl⟩
  go_enter Try.func160, Try.ntmps160
  go_wp2_with fail
  go_ret
  exact ⟨ret_bool (by simp [e0, e1, e2, e3, e4, e5]), rfl⟩

theorem rkey_len (K : List (List UInt8)) (gen : Nat) (b : List UInt8) : (rkeyB K gen b).1.length = 32 ∨ rkeyB K gen b = ([], 11) := by
  unfold rkeyB
  split
  · rename_i h
    exact .inl h.2.2.2.2.2
  · exact .inr rfl

set_option maxRecDepth 100000 in
set_option maxHeartbeats 1000000 in
theorem RGet_c (gen : Nat) (h : Duo w d u m D U S) (hg : gen < 18446744073709551616) :
    Calls Try.prog 86 #[.pointer (some ⟨d, 0, none⟩), .pointer (some ⟨u, 0, none⟩), .int .u64 (gen : Int)] w fun e w' => ∃ A c, e = .returned (.tuple #[.slice A (rgetD D U gen).1.length c, .int .i64 (rgetD D U gen).2]) ∧
      w'.ownsRow w.heap.size 5 1 (.slice A (rgetD D U gen).1.length c) (rgetD D U gen).1.length (bytesV (rgetD D U gen).1) ∧ Below w.heap.size w w' := by
  have hr := fun W => Root_any (gen : Int) W (by omega) (by omega)
  rw [show (gen : Int) % 2 = (rplace gen : Int) by unfold rplace; omega] at hr
  have hrd := fun W (hW : Below w.heap.size w W) => (h.below hW).read (rplace gen : Int)
  have hde := fun W (hW : Below w.heap.size w W) => (h.below hW).decode (rplace gen : Int)
  unfold rgetD
  generalize readX D (rplace gen : Int) = R at hrd ⊢
  obtain ⟨b, f⟩ := R
  simp only at hrd ⊢
  unfold rkeyB
  have Hr := Lib.hid hr; clear hr
  have Hrd := Lib.hid hrd; clear hrd h
  have Hde := Lib.hid hde; clear hde
  by_cases hf : f = 0
  · subst hf
    rw [if_neg (by simp)]
    generalize hR : decU U (rplace gen : Int) b = R
    have Hde' : Hid (∀ (W : World), Below w.heap.size w W → ∀ (A : Option Addr) (n c : Nat), BytesAt W A n b → n ≤ c → Calls Try.prog 58 #[.pointer (some ⟨u, 0, none⟩), .int .i64 (rplace gen : Int), .slice A n c] W fun e w' => DecPost R W e w') := Lib.hid fun W hW A n c hb hc => by
      rw [← hR]; exact Hde.out W hW A n c b hb hc
    clear Hde hR
    obtain ⟨f2, x⟩ := R
    simp only
    by_cases hm : f2 = 0 ∧ rootIs gen x
    · rw [if_pos hm]
      have hmd : decide (f2 = 0 ∧ rootIs gen x) = true := by simpa using hm
      have Hmd := Lib.hid hmd; clear hmd hm
      simp only
      go_enter Try.func86, Try.ntmps86
      go_wp2_with fail
      refine (Hr.out _).mono ?_; rintro e w1 ⟨rfl, rfl⟩
      go_wp2_with fail
      have hB0 : Below w.heap.size w (w.alloc (.cells #[.int .u64 (gen : Int)] 28)) := Bbox _ _
      have hG0 := heap_alloc_new w (.cells #[.int .u64 (gen : Int)] 28)
      generalize w.alloc (.cells #[.int .u64 (gen : Int)] 28) = W0 at hB0 hG0 ⊢
      refine (Hrd.out W0 hB0).mono ?_; rintro e w1 ⟨A1, c1, rfl, hb, hc, hl, hb1⟩
      have hB1 := Bthen hB0 hb1
      have hG1 := (hb1.block _ (blk_lt hG0)).trans hG0
      have Hd1 := Lib.hid (Hde'.out w1 hB1 A1 _ c1 hb hc)
      clear hb hc hl hG0
      go_wp2_with fail
      refine Hd1.out.mono ?_; rintro e w2 ⟨A2, c2, rfl, hown, hb2⟩
      have hB2 := Bthen hB1 hb2
      have hG2 := (hb2.block _ (blk_lt hG1)).trans hG1
      have Hown := Lib.hid hown; clear hown
      unfold secV
      simp only
      go_wp2_with fail
      have hB3 : Below w.heap.size w ((w2.alloc (.cells #[.int .i64 x.kind, .int .u64 (x.life : Int), .int .i64 x.seq, .int .u64 (x.gen : Int), .slice A2 x.body.length c2] 54)).alloc (.cells #[.int .i64 f2] 37)) := Bnew (Bnew hB2 _) _
      have hb3 : Below w2.heap.size w2 ((w2.alloc (.cells #[.int .i64 x.kind, .int .u64 (x.life : Int), .int .i64 x.seq, .int .u64 (x.gen : Int), .slice A2 x.body.length c2] 54)).alloc (.cells #[.int .i64 f2] 37)) := Bnew (Bbox _ _) _
      have hX : ((w2.alloc (.cells #[.int .i64 x.kind, .int .u64 (x.life : Int), .int .i64 x.seq, .int .u64 (x.gen : Int), .slice A2 x.body.length c2] 54)).alloc (.cells #[.int .i64 f2] 37)).heap[w2.heap.size]? = some (.cells #[.int .i64 x.kind, .int .u64 (x.life : Int), .int .i64 x.seq, .int .u64 (x.gen : Int), .slice A2 x.body.length c2] 54 (0, 0)) := by
        rw [Below.heap_alloc _ _ _ (by simp)]; exact heap_alloc_new _ _
      have hY : ((w2.alloc (.cells #[.int .i64 x.kind, .int .u64 (x.life : Int), .int .i64 x.seq, .int .u64 (x.gen : Int), .slice A2 x.body.length c2] 54)).alloc (.cells #[.int .i64 f2] 37)).cell? ⟨w2.heap.size + 1, 0, none⟩ = some (.int .i64 f2) := by go_simp
      generalize (w2.alloc (.cells #[.int .i64 x.kind, .int .u64 (x.life : Int), .int .i64 x.seq, .int .u64 (x.gen : Int), .slice A2 x.body.length c2] 54)).alloc (.cells #[.int .i64 f2] 37) = W3 at hB3 hb3 hX hY ⊢
      have hG3 := (hb3.block _ (blk_lt hG2)).trans hG2
      have hm3 := RMine_any x A2 c2 f2 gen _ _ _ hY hX (cell_of_one hG3).1
      rw [Hmd.out] at hm3
      have Hm3 := Lib.hid hm3; clear hm3
      refine Hm3.out.mono ?_; rintro e w4 ⟨rfl, rfl⟩
      obtain ⟨x0, x1, x2, x3, x4, xf⟩ := cells5 hX
      go_wp2_with fail
      go_ret2
      exact ⟨A2, c2, rfl, own_below (own_mono Hown.out hB1.size) hb3, hB3⟩
    · rw [if_neg hm]
      have hmd : decide (f2 = 0 ∧ rootIs gen x) = false := by simpa using hm
      have Hmd := Lib.hid hmd; clear hmd hm
      go_enter Try.func86, Try.ntmps86
      go_wp2_with fail
      refine (Hr.out _).mono ?_; rintro e w1 ⟨rfl, rfl⟩
      go_wp2_with fail
      have hB0 : Below w.heap.size w (w.alloc (.cells #[.int .u64 (gen : Int)] 28)) := Bbox _ _
      have hG0 := heap_alloc_new w (.cells #[.int .u64 (gen : Int)] 28)
      generalize w.alloc (.cells #[.int .u64 (gen : Int)] 28) = W0 at hB0 hG0 ⊢
      refine (Hrd.out W0 hB0).mono ?_; rintro e w1 ⟨A1, c1, rfl, hb, hc, hl, hb1⟩
      have hB1 := Bthen hB0 hb1
      have hG1 := (hb1.block _ (blk_lt hG0)).trans hG0
      have Hd1 := Lib.hid (Hde'.out w1 hB1 A1 _ c1 hb hc)
      clear hb hc hl hG0
      go_wp2_with fail
      refine Hd1.out.mono ?_; rintro e w2 ⟨A2, c2, rfl, hown, hb2⟩
      have hB2 := Bthen hB1 hb2
      have hG2 := (hb2.block _ (blk_lt hG1)).trans hG1
      have Hown := Lib.hid hown; clear hown
      unfold secV
      simp only
      go_wp2_with fail
      have hB3 : Below w.heap.size w ((w2.alloc (.cells #[.int .i64 x.kind, .int .u64 (x.life : Int), .int .i64 x.seq, .int .u64 (x.gen : Int), .slice A2 x.body.length c2] 54)).alloc (.cells #[.int .i64 f2] 37)) := Bnew (Bnew hB2 _) _
      have hb3 : Below w2.heap.size w2 ((w2.alloc (.cells #[.int .i64 x.kind, .int .u64 (x.life : Int), .int .i64 x.seq, .int .u64 (x.gen : Int), .slice A2 x.body.length c2] 54)).alloc (.cells #[.int .i64 f2] 37)) := Bnew (Bbox _ _) _
      have hX : ((w2.alloc (.cells #[.int .i64 x.kind, .int .u64 (x.life : Int), .int .i64 x.seq, .int .u64 (x.gen : Int), .slice A2 x.body.length c2] 54)).alloc (.cells #[.int .i64 f2] 37)).heap[w2.heap.size]? = some (.cells #[.int .i64 x.kind, .int .u64 (x.life : Int), .int .i64 x.seq, .int .u64 (x.gen : Int), .slice A2 x.body.length c2] 54 (0, 0)) := by
        rw [Below.heap_alloc _ _ _ (by simp)]; exact heap_alloc_new _ _
      have hY : ((w2.alloc (.cells #[.int .i64 x.kind, .int .u64 (x.life : Int), .int .i64 x.seq, .int .u64 (x.gen : Int), .slice A2 x.body.length c2] 54)).alloc (.cells #[.int .i64 f2] 37)).cell? ⟨w2.heap.size + 1, 0, none⟩ = some (.int .i64 f2) := by go_simp
      generalize (w2.alloc (.cells #[.int .i64 x.kind, .int .u64 (x.life : Int), .int .i64 x.seq, .int .u64 (x.gen : Int), .slice A2 x.body.length c2] 54)).alloc (.cells #[.int .i64 f2] 37) = W3 at hB3 hb3 hX hY ⊢
      have hG3 := (hb3.block _ (blk_lt hG2)).trans hG2
      have hm3 := RMine_any x A2 c2 f2 gen _ _ _ hY hX (cell_of_one hG3).1
      rw [Hmd.out] at hm3
      have Hm3 := Lib.hid hm3; clear hm3
      refine Hm3.out.mono ?_; rintro e w4 ⟨rfl, rfl⟩
      obtain ⟨x0, x1, x2, x3, x4, xf⟩ := cells5 hX
      go_wp2_with fail
      go_ret2
      exact ⟨none, 0, rfl, World.ownsRow_nil _ _ _ _, hB3⟩
  · rw [if_pos hf]
    go_enter Try.func86, Try.ntmps86
    go_wp2_with fail
    refine (Hr.out _).mono ?_; rintro e w1 ⟨rfl, rfl⟩
    go_wp2_with fail
    refine (Hrd.out _ (Bbox _ _)).mono ?_; rintro e w1 ⟨A1, c1, rfl, hb, hc, hl, hb1⟩
    clear hb hc hl
    go_wp2_with fail
    go_ret2
    exact ⟨none, 0, rfl, World.ownsRow_nil _ _ _ _, Bthen (Bbox _ _) hb1⟩

end
end Go.Proofs.Ytdjndeleafhglaa
namespace Go.Proofs.Ytdjndeleafhglaa
open Go.RowKit

theorem BytesAt.frame {T : Nat → Prop} {w w' : World} {A : Option Addr} {n : Nat} {l : List UInt8} (h : BytesAt w A n l) (hf : Frame T w w') (hT : 0 < n → ∀ g o, A = some ⟨g, o, none⟩ → ¬ T g) : BytesAt w' A n l :=
  ⟨h.len, fun hn => by
    obtain ⟨g, o, hA, hr⟩ := h.at_ hn
    exact ⟨g, o, hA, rangeAt_keep hr (hf.block g (rangeAt_lt hr (by rw [bytesV_length, h.len]; exact hn)) (hT hn g o hA))⟩⟩

section
variable {w : World} {d u m q : Nat} {D : DS} {U : List (List UInt8)} {S : Nat → Prop}

theorem xor_u64 (a b : Nat) (ha : a < 18446744073709551616) (hb : b < 18446744073709551616) : bits .xor .u64 (a : Int) (b : Int) = ((a ^^^ b : Nat) : Int) := by
  have h : a ^^^ b < 18446744073709551616 := Nat.xor_lt_two_pow (n := 64) (by omega) (by omega)
  change IntKind.u64.wrap ((BitVec.ofInt 64 (a : Int) ^^^ BitVec.ofInt 64 (b : Int)).toNat : Int) = _
  rw [BitVec.toNat_xor, BitVec.ofInt_natCast, BitVec.ofInt_natCast, BitVec.toNat_ofNat, BitVec.toNat_ofNat, Nat.mod_eq_of_lt (show a < 2 ^ 64 by omega), Nat.mod_eq_of_lt (show b < 2 ^ 64 by omega)]
  exact wrap_u64_of _ h

set_option maxRecDepth 100000 in
set_option maxHeartbeats 1000000 in
theorem RSettle_c (gen : Nat) (h : Duo w d u m D U S) (hF : Few D q) (hq : q ≤ 300000) (hg : gen < 18446744073709551616) :
    Calls Try.prog 91 #[.pointer (some ⟨d, 0, none⟩), .pointer (some ⟨u, 0, none⟩), .int .u64 (gen : Int)] w fun e w' => ∃ A c, e = .returned (.tuple #[.slice A (rsetD D U gen).1.1.length c, .int .i64 (rsetD D U gen).1.2]) ∧
      BytesAt w' A (rsetD D U gen).1.1.length (rsetD D U gen).1.1 ∧ (rsetD D U gen).1.1.length ≤ c ∧ Turn2 S d u m (rsetD D U gen).2 U w w' := by
  have hx : bits .xor .u64 (gen : Int) 1 = ((gen ^^^ 1 : Nat) : Int) := xor_u64 gen 1 hg (by decide)
  have hog := xor_lt64 hg
  have hget := RGet_c gen h hg
  have hlt := h.lt
  have hbl := fun W (hW : Below w.heap.size w W) => RBlank_c (gen ^^^ 1) (h.below hW) hog
  have her := fun W (hW : Below w.heap.size w W) => RErase_c (gen ^^^ 1) (h.below hW) hF hq hog
  have Hd := Lib.hid h; clear h
  have Hx := Lib.hid hx; clear hx
  unfold rsetD
  generalize gen ^^^ 1 = og at Hx hog hbl her ⊢
  generalize rgetD D U gen = G at hget ⊢
  generalize rblankD D og = B at hbl ⊢
  generalize reraseD D og = E at her ⊢
  obtain ⟨k, f⟩ := G
  obtain ⟨bk, fb⟩ := B
  obtain ⟨fe, D2⟩ := E
  have Hget := Lib.hid hget; clear hget
  have Hbl := Lib.hid hbl; clear hbl
  have Her := Lib.hid her; clear her
  have Hlt := Lib.hid hlt; clear hlt
  by_cases hf : f = 0
  case neg =>
    rw [if_pos (show (k, f).2 ≠ 0 from hf)]
    simp only at Hget ⊢
    go_enter Try.func91, Try.ntmps91
    go_wp2_with fail
    refine Hget.out.mono ?_; rintro e w1 ⟨A1, c1, rfl, hown, hb1⟩
    have Hown := Lib.hid hown; clear hown
    go_wp2_with fail
    go_ret2
    exact ⟨none, 0, rfl, BytesAt.nil _, Nat.le_refl _, Turn2.of_below Hd.out hb1⟩
  subst hf
  rw [if_neg (show ¬ (k, (0 : Int)).2 ≠ 0 by simp)]
  by_cases hfb : fb = 0
  case neg =>
    rw [if_neg (show ¬ (bk, fb).2 = 0 from hfb)]
    simp only at Hget Hbl ⊢
    go_enter Try.func91, Try.ntmps91
    go_wp2_with fail
    refine Hget.out.mono ?_; rintro e w1 ⟨A1, c1, rfl, hown, hb1⟩
    have Hown := Lib.hid hown; clear hown
    go_wp2_with fail
    rw [Hx.out]
    refine (Hbl.out w1 hb1).mono ?_; rintro e w2 ⟨rfl, hb2⟩
    go_wp2_with fail
    go_ret2
    exact ⟨none, 0, rfl, BytesAt.nil _, Nat.le_refl _, Turn2.of_below Hd.out (Bthen hb1 hb2)⟩
  subst hfb
  rw [if_pos (show (bk, (0 : Int)).2 = 0 from rfl)]
  cases bk with
  | true =>
    rw [if_pos (show ((true, (0 : Int)) : Bool × Int).1 = true from rfl)]
    simp only at Hget Hbl ⊢
    go_enter Try.func91, Try.ntmps91
    go_wp2_with fail
    refine Hget.out.mono ?_; rintro e w1 ⟨A1, c1, rfl, hown, hb1⟩
    have Hown := Lib.hid hown; clear hown
    go_wp2_with fail
    rw [Hx.out]
    refine (Hbl.out w1 hb1).mono ?_; rintro e w2 ⟨rfl, hb2⟩
    go_wp2_with fail
    go_ret2
    exact ⟨A1, c1, rfl, (BytesAt.own Hown.out).below hb2, own_cap Hown.out, Turn2.of_below Hd.out (Bthen hb1 hb2)⟩
  | false =>
    rw [if_neg (show ¬ ((false, (0 : Int)) : Bool × Int).1 = true by simp)]
    by_cases hfe : fe = 0
    · subst hfe
      rw [if_neg (show ¬ ((0 : Int), D2).1 ≠ 0 by simp)]
      simp only at Hget Hbl Her ⊢
      go_enter Try.func91, Try.ntmps91
      go_wp2_with fail
      refine Hget.out.mono ?_; rintro e w1 ⟨A1, c1, rfl, hown, hb1⟩
      have Hown := Lib.hid hown; clear hown
      go_wp2_with fail
      rw [Hx.out]
      refine (Hbl.out w1 hb1).mono ?_; rintro e w2 ⟨rfl, hb2⟩
      go_wp2_with fail
      refine (Her.out w2 (Bthen hb1 hb2)).mono ?_; rintro e w3 ⟨rfl, ht⟩
      have Ht := Lib.hid ht; clear ht
      go_wp2_with fail
      go_ret2
      refine ⟨A1, c1, rfl, ?_, own_cap Hown.out, Ht.out.after (Bthen hb1 hb2)⟩
      obtain ⟨S2, h1, h2, h3⟩ := Ht.out
      refine ((BytesAt.own Hown.out).below hb2).frame h2 (fun _ g o e hs => ?_)
      have q1 := Hlt.out g hs
      have q2 := (Hown.out.lt g (by rw [e]; rfl)).1
      omega
    · rw [if_pos (show (fe, D2).1 ≠ 0 from hfe)]
      simp only at Hget Hbl Her ⊢
      go_enter Try.func91, Try.ntmps91
      go_wp2_with fail
      refine Hget.out.mono ?_; rintro e w1 ⟨A1, c1, rfl, hown, hb1⟩
      have Hown := Lib.hid hown; clear hown
      go_wp2_with fail
      rw [Hx.out]
      refine (Hbl.out w1 hb1).mono ?_; rintro e w2 ⟨rfl, hb2⟩
      go_wp2_with fail
      refine (Her.out w2 (Bthen hb1 hb2)).mono ?_; rintro e w3 ⟨rfl, ht⟩
      have Ht := Lib.hid ht; clear ht
      go_wp2_with fail
      go_ret2
      exact ⟨none, 0, rfl, BytesAt.nil _, Nat.le_refl _, Ht.out.after (Bthen hb1 hb2)⟩

theorem RPut_nil (gen : Nat) (v : Option Addr) (A : Option Addr) (n c : Nat) (w : World) : Calls Try.prog 85 #[.pointer none, .pointer v, .int .u64 (gen : Int), .slice A n c] w fun e w' => e = .returned (.int .i64 1) ∧ w = w' := by
  go_enter Try.func85, Try.ntmps85
  go_wp2_with fail
  go_ret
  exact ⟨rfl, rfl⟩
theorem RPut_bare (gen d : Nat) (A : Option Addr) (n c : Nat) (w : World) : Calls Try.prog 85 #[.pointer (some ⟨d, 0, none⟩), .pointer none, .int .u64 (gen : Int), .slice A n c] w fun e w' => e = .returned (.int .i64 1) ∧ w = w' := by
  go_enter Try.func85, Try.ntmps85
  go_wp2_with fail
  go_ret
  exact ⟨rfl, rfl⟩
theorem RErase_nil (gen : Nat) (w : World) : Calls Try.prog 87 #[.pointer none, .int .u64 (gen : Int)] w fun e w' => e = .returned (.int .i64 1) ∧ w = w' := by
  go_enter Try.func87, Try.ntmps87
  go_wp2_with fail
  go_ret
  exact ⟨rfl, rfl⟩
theorem RGet_nil (gen : Nat) (v : Option Addr) (w : World) : Calls Try.prog 86 #[.pointer none, .pointer v, .int .u64 (gen : Int)] w fun e w' => e = .returned (.tuple #[.slice none 0 0, .int .i64 1]) ∧ Below w.heap.size w w' := by
  go_enter Try.func86, Try.ntmps86
  go_wp2_with fail
  go_ret2
  exact ⟨rfl, Bbox _ _⟩

end
end Go.Proofs.Ytdjndeleafhglaa
namespace Go.Proofs.Ytdjndeleafhglaa
open Go.RowKit

theorem made_zero (N : Nat) : madeCells (Value.cells (.int .u8 0)) (N * 1) = (bytesV (List.replicate N 0)).toArray := by
  unfold bytesV
  rw [List.map_replicate]
  apply Array.ext_getElem?
  intro j
  by_cases hj : j < N
  · simp [madeCells, Value.cells, hj, Nat.mod_one]
  · rw [Array.getElem?_eq_none (by simp [madeCells]; omega), Array.getElem?_eq_none (by simp; omega)]
theorem Sec.eq_iff (x y : Sec) : x = y ↔ x.kind = y.kind ∧ x.life = y.life ∧ x.seq = y.seq ∧ x.gen = y.gen ∧ x.body = y.body := by
  cases x; cases y; simp

set_option maxRecDepth 100000 in
set_option maxHeartbeats 4000000 in
theorem R18Same_any (x y : Sec) (A B : Option Addr) (ca cb : Nat) (w : World) (ha : BytesAt w A x.body.length x.body) (hb : BytesAt w B y.body.length y.body) (hn : x.body.length ≤ 1000000) :
    Calls Try.prog 64 #[secV x A ca, secV y B cb] w fun e w' => e = .returned (.bool (decide (x = y))) ∧ Below w.heap.size w w' := by
  have hy : decide (x = y) = (decide (x.kind = y.kind) && (decide (x.life = y.life) && (decide (x.seq = y.seq) && (decide (x.gen = y.gen) && decide (x.body = y.body))))) := by
    rw [Bool.eq_iff_iff]; simp [Sec.eq_iff]
  rw [hy]
  obtain ⟨k, l, q, g, b⟩ := x
  obtain ⟨k', l', q', g', b'⟩ := y
  unfold secV
  simp only at *
  clear hy
  have Ha := Lib.hid ha; clear ha
  have Hb := Lib.hid hb; clear hb
  by_cases h1 : k = k'
  case neg =>
    go_enter Try.func64, Try.ntmps64
    go_wp2_with fail
    go_ret
    exact ⟨ret_bool (by simp [h1]), by ((repeat (first | (with_reducible exact Bnil _) | (with_reducible assumption) | (with_reducible refine Bset ?_ ?_ _) | (with_reducible refine Bnew ?_ _) | (with_reducible refine Bdrew ?_) | (with_reducible refine Bthen ?_ (by assumption)))); all_goals (simp; try omega))⟩
  subst h1
  by_cases h2 : l = l'
  case neg =>
    have h2' : ¬ (l : Int) = (l' : Int) := by omega
    go_enter Try.func64, Try.ntmps64
    go_wp2_with fail
    go_ret
    exact ⟨ret_bool (by simp [h2]), by ((repeat (first | (with_reducible exact Bnil _) | (with_reducible assumption) | (with_reducible refine Bset ?_ ?_ _) | (with_reducible refine Bnew ?_ _) | (with_reducible refine Bdrew ?_) | (with_reducible refine Bthen ?_ (by assumption)))); all_goals (simp; try omega))⟩
  subst h2
  by_cases h3 : q = q'
  case neg =>
    go_enter Try.func64, Try.ntmps64
    go_wp2_with fail
    go_ret
    exact ⟨ret_bool (by simp [h3]), by ((repeat (first | (with_reducible exact Bnil _) | (with_reducible assumption) | (with_reducible refine Bset ?_ ?_ _) | (with_reducible refine Bnew ?_ _) | (with_reducible refine Bdrew ?_) | (with_reducible refine Bthen ?_ (by assumption)))); all_goals (simp; try omega))⟩
  subst h3
  by_cases h4 : g = g'
  case neg =>
    have h4' : ¬ (g : Int) = (g' : Int) := by omega
    go_enter Try.func64, Try.ntmps64
    go_wp2_with fail
    go_ret
    exact ⟨ret_bool (by simp [h4]), by ((repeat (first | (with_reducible exact Bnil _) | (with_reducible assumption) | (with_reducible refine Bset ?_ ?_ _) | (with_reducible refine Bnew ?_ _) | (with_reducible refine Bdrew ?_) | (with_reducible refine Bthen ?_ (by assumption)))); all_goals (simp; try omega))⟩
  subst h4
  have hbx : Below w.heap.size w ((w.alloc (.cells #[.int .i64 k, .int .u64 (l : Int), .int .i64 q, .int .u64 (g : Int), .slice A b.length ca] 60)).alloc (.cells #[.int .i64 k, .int .u64 (l : Int), .int .i64 q, .int .u64 (g : Int), .slice B b'.length cb] 60)) := Bnew (Bbox _ _) _
  have Ha2 := Lib.hid (Ha.out.below hbx)
  have Hb2 := Lib.hid (Hb.out.below hbx)
  have Hbx := Lib.hid hbx; clear hbx
  go_enter Try.func64, Try.ntmps64
  go_wp2_with fail
  refine (Same_any A B b.length b'.length ca cb b b' _ Ha2.out Hb2.out hn).mono ?_
  rintro e w1 ⟨rfl, hb1⟩
  go_wp2_with fail
  go_ret
  exact ⟨ret_bool (by simp), Bthen Hbx.out hb1⟩

set_option maxRecDepth 100000 in
set_option maxHeartbeats 1000000 in
theorem R18Blank_any (A : Option Addr) (n c : Nat) (l : List UInt8) (w : World) (ha : BytesAt w A n l) (hn : n ≤ 1000000) :
    Calls Try.prog 61 #[.slice A n c] w fun e w' => e = .returned (.bool (decide (l = blankS))) ∧ w = w' := by
  have hl := ha.len
  have Ha := Lib.hid ha; clear ha
  have Hl := Lib.hid hl; clear hl
  go_enter Try.func61, Try.ntmps61
  go_wp2_with fail
  go_loop [3] (fun i => ∃ k : Nat, k ≤ n ∧ i = .int .i64 k ∧ ∀ j, j < k → l[j]? = some 0) (fun i => n - (intOf i).toNat)
  case atStart => exact ⟨0, by omega, rfl, fun j hj => by omega⟩
  case round =>
    obtain ⟨k, hk, rfl, hz⟩ := hrel
    by_cases hlt : k < n
    · obtain ⟨g, o, rfl, hr⟩ := Ha.out.at_ (by omega)
      obtain ⟨x, hx⟩ : ∃ x, l[k]? = some x := ⟨_, List.getElem?_eq_getElem (by rw [Hl.out]; exact hlt)⟩
      have hxa := hr k (.int .u8 (x.toNat : Int)) (by simp [bytesV, hx])
      have hkn : (k : Int) < (n : Int) := by omega
      have Hx := Lib.hid hx; clear hx hr
      have Hz := Lib.hid hz; clear hz
      by_cases h0 : x = 0
      · subst h0
        go_wp2_with fail
        exact ⟨⟨k + 1, by omega, by go_num, fun j hj => by
          by_cases h : j < k
          · exact Hz.out j h
          · obtain rfl : j = k := by omega
            exact Hx.out⟩, by simp [intOf]; omega⟩
      · have h1 : ¬ x.toNat = 0 := fun h => h0 (UInt8.toNat_inj.1 h)
        have h1' : ¬ (x.toNat : Int) = 0 := by omega
        go_wp2_with fail
        go_ret
        refine ⟨ret_bool ?_, rfl⟩
        symm
        rw [decide_eq_false_iff_not]
        intro e
        have h2 := Hx.out
        rw [e] at h2
        unfold blankS at h2
        rw [List.getElem?_replicate] at h2
        split at h2
        · exact h0 (Option.some.inj h2).symm
        · cases h2
    · obtain rfl : k = n := by omega
      have hkn : ¬ (k : Int) < (k : Int) := by omega
      have Hz := Lib.hid hz; clear hz
      by_cases h5 : k = 512
      · have h5' : (k : Int) = 512 := by omega
        go_wp2_with fail
        go_ret
        refine ⟨ret_bool ?_, rfl⟩
        symm
        rw [decide_eq_true_eq]
        apply List.ext_getElem?
        intro j
        unfold blankS
        by_cases hj : j < k
        · rw [Hz.out j hj, List.getElem?_replicate, if_pos (by omega)]
        · rw [List.getElem?_eq_none (by rw [Hl.out]; omega), List.getElem?_eq_none (by simp; omega)]
      · have h5' : ¬ (k : Int) = 512 := by omega
        go_wp2_with fail
        go_ret
        refine ⟨ret_bool ?_, rfl⟩
        symm
        rw [show ((k : Int) == 512) = false by simpa using h5', decide_eq_false_iff_not]
        intro e
        apply h5
        rw [← Hl.out, e]
        exact List.length_replicate

end Go.Proofs.Ytdjndeleafhglaa
namespace Go.Proofs.Ytdjndeleafhglaa
open Go.RowKit

theorem R29Sector_any (gen : Nat) (A : Option Addr) (c : Nat) (key : List UInt8) (w : World) : Calls Try.prog 89 #[.int .u64 (gen : Int), .slice A key.length c] w fun e w' => e = .returned (secV (rootS gen key) A c) ∧ Below w.heap.size w w' := by
  unfold secV
  simp only [rootS]
  go_enter Try.func89, Try.ntmps89
  go_wp2_with fail
  refine bodyPost_ret (v := .agg #[.int .i64 1, .int .u64 0, .int .i64 0, .int .u64 (gen : Int), .slice A key.length c]) ?_ rfl ⟨rfl, ?_⟩
  · simp [results, Try.results89, go_sem]
  · ((repeat (first | (with_reducible exact Bnil _) | (with_reducible assumption) | (with_reducible refine Bset ?_ ?_ _) | (with_reducible refine Bnew ?_ _) | (with_reducible refine Bdrew ?_) | (with_reducible refine Bthen ?_ (by assumption)))); all_goals (simp; try omega))
theorem R29Is_any (gen : Nat) (x : Sec) (A : Option Addr) (c : Nat) (w : World) : Calls Try.prog 90 #[.int .u64 (gen : Int), secV x A c] w fun e w' => e = .returned (.bool (decide (rootIs gen x))) ∧ Below w.heap.size w w' := by
  unfold rootIs secV
  by_cases e1 : x.kind = 1
  case neg => 
    go_enter Try.func90, Try.ntmps90
    go_wp2_with fail
    go_ret
    exact ⟨ret_bool (by simp [e1]), Bbox _ _⟩
  by_cases e2 : x.life = 0
  case neg => 
    have e2' : ¬ ((x.life : Int) = 0) := by omega
    go_enter Try.func90, Try.ntmps90
    go_wp2_with fail
    go_ret
    exact ⟨ret_bool (by simp [e2]), Bbox _ _⟩
  by_cases e3 : x.seq = 0
  case neg => 
    go_enter Try.func90, Try.ntmps90
    go_wp2_with fail
    go_ret
    exact ⟨ret_bool (by simp [e3]), Bbox _ _⟩
  by_cases e4 : x.gen = gen
  case neg => 
    have e4' : ¬ ((x.gen : Int) = (gen : Int)) := by omega
    go_enter Try.func90, Try.ntmps90
    go_wp2_with fail
    go_ret
    exact ⟨ret_bool (by simp [e4]), Bbox _ _⟩
  by_cases e5 : x.body.length = 32
  case neg => 
    have e5' : ¬ ((x.body.length : Int) = 32) := by omega
    go_enter Try.func90, Try.ntmps90
    go_wp2_with fail
    go_ret
    exact ⟨ret_bool (by simp [e5]; omega), Bbox _ _⟩
  go_enter Try.func90, Try.ntmps90
  go_wp2_with fail
  go_ret
  exact ⟨ret_bool (by simp [e1, e2, e3, e4, e5]), Bbox _ _⟩

def zeros32 : List UInt8 := List.replicate 32 0
theorem zeros32_len : zeros32.length = 32 := List.length_replicate

set_option maxRecDepth 100000 in
set_option maxHeartbeats 1000000 in
theorem alive29_any (w : World) : Calls Try.prog 84 #[] w fun e w' => e = .returned (.bool true) ∧ Below w.heap.size w w' := by
  obtain ⟨i0, hi, hz0, hz1, hz2⟩ := info_parts info_byte
  have hmk := fun (w : World) => run_make (P := Try.prog) w 41 5 i0 _ Try.underlying41 hi hz0 .i64 .i64 32 32 (by omega) (by omega) (by rw [hz2]; omega) (by omega)
  rw [hz1] at hmk
  have hB : madeCells (Value.cells (.int .u8 0)) (Int.toNat 32 * 1) = (bytesV zeros32).toArray := made_zero 32
  rw [hB] at hmk
  simp only [show (32 : Int).toNat = 32 from rfl] at hmk
  obtain ⟨D1, hput, hk1, hc1, hn1, hf1⟩ := rput_calm (Calm.new 2) rfl rfl [] 3 zeros32_len
  have hg1 : rgetD D1 (encU [] (rplace 3 : Int) (rootS 3 zeros32)).2 1 = ([], 11) := by
    rw [rget_calm hc1 hn1, hk1]
    simp only [show rplace 1 = rplace 3 from rfl, if_true]
    exact rkey_other zeros32_len (by decide) List.prefix_rfl (by decide) rfl
  have hg3 : rgetD D1 (encU [] (rplace 3 : Int) (rootS 3 zeros32)).2 3 = (zeros32, 0) := by
    rw [rget_calm hc1 hn1, hk1]
    simp only [if_true]
    exact rkey_put zeros32_len (by decide) List.prefix_rfl
  have Hput := Lib.hid hput; clear hput hk1 hc1 hn1 hf1
  generalize encU [] (rplace 3 : Int) (rootS 3 zeros32) = E at Hput hg1 hg3
  obtain ⟨eb, V⟩ := E
  simp only at Hput hg1 hg3
  have Hg1 := Lib.hid hg1; clear hg1
  have Hg3 := Lib.hid hg3; clear hg3
  go_enter Try.func84, Try.ntmps84
  go_wp2_with fail
  refine (New_yes 2 w (by decide) (by decide)).mono ?_; rintro e w1 ⟨rfl, hd1, hb1⟩
  have Hd1 := Lib.hid hd1; clear hd1
  go_wp2_with fail
  refine (Symbolic_at w1).mono ?_; rintro e w2 ⟨u, m, rfl, hs2, hu, hm, hb2⟩
  have hrig := Rig.made hb1 Hd1.out hs2 hu hm hb2
  clear hs2
  go_wp2_with fail
  have hb3 : Below w2.heap.size w2 (w2.alloc (.cells (bytesV zeros32).toArray 5)) := Bbox _ _
  have hby : BytesAt (w2.alloc (.cells (bytesV zeros32).toArray 5)) (some ⟨w2.heap.size, 0, none⟩) zeros32.length zeros32 := BytesAt.of_block _ rfl (heap_alloc_new w2 _)
  generalize w2.alloc (.cells (bytesV zeros32).toArray 5) = w3 at hb3 hby ⊢
  obtain ⟨S3, hd3, hB3, hS3⟩ := (hrig.then hb3).ex
  have hp := RPut_c (q := 0) 3 (some ⟨w2.heap.size, 0, none⟩) 32 zeros32 hd3 (Few.new 2) (by decide) (by decide) (by decide) hby
  rw [Hput.out] at hp
  have Hp := Lib.hid hp; clear hp hd3 hby
  refine Hp.out.mono ?_; rintro e w4 ⟨rfl, ht⟩
  have hrig4 := Rig.next hB3 hS3 ht
  obtain ⟨S4, hd4, hB4, hS4⟩ := hrig4.ex
  have hq := RGet_c 1 hd4 (by decide)
  rw [Hg1.out] at hq
  have Hq := Lib.hid hq; clear hq ht
  go_wp2_with fail
  refine Hq.out.mono ?_; rintro e w5 ⟨A5, c5, rfl, _, hb5⟩
  have hq := RGet_c 3 (hd4.below hb5) (by decide)
  rw [Hg3.out] at hq
  have Hq3 := Lib.hid hq; clear hq hd4
  go_wp2_with fail
  refine Hq3.out.mono ?_; rintro e w6 ⟨A6, c6, rfl, _, hb6⟩
  go_wp2_with fail
  go_ret
  exact ⟨rfl, Bthen (Bthen hB4 hb5) hb6⟩

end Go.Proofs.Ytdjndeleafhglaa
namespace Go.Proofs.Ytdjndeleafhglaa
open Go.RowKit

/-- The worlds in which nothing but what T names has turned. -/
abbrev FrameW (T : Nat → Prop) (W : World) : World → Prop := Frame T W
theorem inF_more {T : Nat → Prop} {W w0 : World} (h : FrameW T W w0) : ∃ x : InS (FrameW T W), w0 = x.w := ⟨⟨w0, h⟩, rfl⟩
theorem Frame.heap {T : Nat → Prop} {W W' : World} (h : Frame T W W') {X : Nat} {o : Obj} (hX : W.heap[X]? = some o) (hT : ¬ T X) : W'.heap[X]? = some o :=
  (h.block X (Array.getElem?_eq_some_iff.1 hX).1 hT).trans hX
theorem Frame.then {T : Nat → Prop} {W a b : World} (h : Frame T W a) (hb : Below a.heap.size a b) : Frame T W b := h.trans (Frame.of_below (S := T) hb) (fun _ hj => .inl hj)
theorem Frame.cell {T : Nat → Prop} {W W' : World} (h : Frame T W W') {g o : Nat} {v : Value} (hc : W.cell? ⟨g, o, none⟩ = some v) (hT : ¬ T g) : W'.cell? ⟨g, o, none⟩ = some v :=
  (World.cell?_of_block (w := W) (h.block g (World.block_lt_of_cell? W _ hc) hT)).trans hc

theorem cells3 {w : World} {x : Nat} {a b c : Value} {t : TypeId} (h : w.heap[x]? = some (.cells #[a, b, c] t (0, 0))) : w.cell? ⟨x, 0, none⟩ = some a ∧ w.cell? ⟨x, 1, none⟩ = some b ∧ w.cell? ⟨x, 2, none⟩ = some c := by
  refine ⟨?_, ?_, ?_⟩
  all_goals (rw [cell_of_row _ _ _ _ _ _ h]; rfl)

/-- In a statement: both made since W, which lies as it lay; and what lay in the blocks of K in w1 lies so still. -/
structure RigK (W w1 : World) (K : Nat → Prop) (w : World) (d u m : Nat) (D : DS) (U : List (List UInt8)) : Prop where
  ex : ∃ S, Duo w d u m D U S ∧ Below W.heap.size W w ∧ (∀ k, S k → W.heap.size ≤ k) ∧ (∀ k, K k → ¬ S k ∧ k < w.heap.size ∧ w.heap[k]? = w1.heap[k]?)
section
variable {W w1 w w' : World} {K : Nat → Prop} {d u m : Nat} {D D' : DS} {U U' : List (List UInt8)} {S : Nat → Prop}
theorem RigK.next (hb : Below W.heap.size W w) (hS : ∀ k, S k → W.heap.size ≤ k) (hK : ∀ k, K k → ¬ S k ∧ k < w.heap.size ∧ w.heap[k]? = w1.heap[k]?) (ht : Turn2 S d u m D' U' w w') : RigK W w1 K w' d u m D' U' := by
  have hl := ht.low hS hb.size
  obtain ⟨S', h1, h2, h3⟩ := ht
  have hz := hb.size
  refine ⟨S', h1, hb.trans hl, fun k hk => (h3 k hk).elim (hS k) (fun h => by omega), fun k hk => ?_⟩
  obtain ⟨k1, k2, k3⟩ := hK k hk
  exact ⟨fun hs => (h3 k hs).elim k1 (fun h => by omega), Nat.lt_of_lt_of_le k2 h2.size, (h2.block k k2 k1).trans k3⟩
theorem RigK.then (h : RigK W w1 K w d u m D U) (hb : Below w.heap.size w w') : RigK W w1 K w' d u m D U := by
  obtain ⟨S, h1, h2, h3, h4⟩ := h.ex
  exact ⟨S, h1.below hb, Bthen h2 hb, h3, fun k hk => ⟨(h4 k hk).1, Nat.lt_of_lt_of_le (h4 k hk).2.1 hb.size, (hb.block k (h4 k hk).2.1).trans (h4 k hk).2.2⟩⟩
/-- From here on blocks are kept that are none of the pair's. -/
theorem RigK.of (hd : Duo w d u m D U S) (hb : Below W.heap.size W w) (hS : ∀ k, S k → W.heap.size ≤ k) (hK : ∀ k, K k → ¬ S k ∧ k < w.heap.size) : RigK W w K w d u m D U :=
  ⟨S, hd, hb, hS, fun k hk => ⟨(hK k hk).1, (hK k hk).2, rfl⟩⟩
theorem RigK.rig (h : RigK W w1 K w d u m D U) : Rig W w d u m D U := by
  obtain ⟨S, h1, h2, h3, _⟩ := h.ex
  exact ⟨S, h1, h2, h3⟩
end

end Go.Proofs.Ytdjndeleafhglaa
namespace Go.Proofs.Ytdjndeleafhglaa
open Go

def orderCodes : List Nat := [104, 97, 114, 110, 101, 115, 115, 32, 48, 54, 97, 100, 99, 48, 97, 101, 49, 53, 100, 48, 54, 101, 101, 100, 56, 50, 99, 52, 48, 48, 97, 52, 50, 50, 56, 55, 100, 100, 100, 102, 50, 57, 56, 48, 52, 98, 53, 54, 56, 97, 51, 97, 56, 48, 48, 57, 51, 51, 50, 48, 48, 97, 56, 97, 101, 56, 49, 101, 52, 98, 49, 53, 32, 99, 117, 116, 32, 97, 116, 32, 111, 117, 98, 108, 105, 101, 116, 116, 101, 47, 111, 117, 98, 108, 105, 101, 116, 116, 101, 108, 97, 119, 50, 49, 46, 71, 101, 111, 109, 83, 105, 122, 101, 115, 32, 111, 117, 98, 108, 105, 101, 116, 116, 101, 47, 111, 117, 98, 108, 105, 101, 116, 116, 101, 108, 97, 119, 50, 49, 46, 71, 101, 111, 109, 65, 112, 97, 114, 116, 32, 111, 117, 98, 108, 105, 101, 116, 116, 101, 47, 111, 117, 98, 108, 105, 101, 116, 116, 101, 108, 97, 119, 50, 49, 46, 71, 101, 111, 109, 80, 108, 97, 99, 101, 115, 32, 111, 117, 98, 108, 105, 101, 116, 116, 101, 47, 111, 117, 98, 108, 105, 101, 116, 116, 101, 108, 97, 119, 49, 57, 46, 68, 105, 115, 107, 84, 101, 97, 114, 115, 32, 111, 117, 98, 108, 105, 101, 116, 116, 101, 47, 111, 117, 98, 108, 105, 101, 116, 116, 101, 108, 97, 119, 49, 56, 46, 83, 101, 99, 116, 111, 114, 82, 101, 97, 100, 115, 32, 111, 117, 98, 108, 105, 101, 116, 116, 101, 47, 111, 117, 98, 108, 105, 101, 116, 116, 101, 108, 97, 119, 49, 56, 46, 83, 101, 99, 116, 111, 114, 66, 121, 116, 101, 115, 32, 111, 117, 98, 108, 105, 101, 116, 116, 101, 47, 111, 117, 98, 108, 105, 101, 116, 116, 101, 108, 97, 119, 49, 56, 46, 83, 101, 99, 116, 111, 114, 66, 97, 99, 107, 32, 111, 117, 98, 108, 105, 101, 116, 116, 101, 47, 111, 117, 98, 108, 105, 101, 116, 116, 101, 108, 97, 119, 49, 57, 46, 68, 105, 115, 107, 80, 108, 97, 121, 115, 32, 111, 117, 98, 108, 105, 101, 116, 116, 101, 47, 111, 117, 98, 108, 105, 101, 116, 116, 101, 108, 97, 119, 49, 57, 46, 68, 105, 115, 107, 75, 101, 101, 112, 115, 32, 111, 117, 98, 108, 105, 101, 116, 116, 101, 47, 111, 117, 98, 108, 105, 101, 116, 116, 101, 108, 97, 119, 50, 57, 46, 82, 111, 111, 116, 80, 117, 116, 115, 32, 111, 117, 98, 108, 105, 101, 116, 116, 101, 47, 111, 117, 98, 108, 105, 101, 116, 116, 101, 108, 97, 119, 50, 57, 46, 82, 111, 111, 116, 82, 101, 97, 100, 115, 32, 111, 117, 98, 108, 105, 101, 116, 116, 101, 47, 111, 117, 98, 108, 105, 101, 116, 116, 101, 108, 97, 119, 50, 57, 46, 82, 111, 111, 116, 67, 114, 97, 115, 104, 101, 115, 32, 111, 117, 98, 108, 105, 101, 116, 116, 101, 47, 111, 117, 98, 108, 105, 101, 116, 116, 101, 108, 97, 119, 50, 52, 46, 83, 117, 112, 101, 114, 87, 114, 105, 116, 101, 115, 32, 111, 117, 98, 108, 105, 101, 116, 116, 101, 47, 111, 117, 98, 108, 105, 101, 116, 116, 101, 108, 97, 119, 50, 53, 46, 83, 110, 97, 112, 87, 114, 105, 116, 101, 115, 32, 111, 117, 98, 108, 105, 101, 116, 116, 101, 47, 111, 117, 98, 108, 105, 101, 116, 116, 101, 108, 97, 119, 50, 53, 46, 83, 110, 97, 112, 65, 112, 97, 114, 116, 32, 111, 117, 98, 108, 105, 101, 116, 116, 101, 47, 111, 117, 98, 108, 105, 101, 116, 116, 101, 108, 97, 119, 50, 52, 46, 83, 117, 112, 101, 114, 82, 101, 97, 100, 115, 32, 111, 117, 98, 108, 105, 101, 116, 116, 101, 47, 111, 117, 98, 108, 105, 101, 116, 116, 101, 108, 97, 119, 50, 53, 46, 83, 110, 97, 112, 82, 101, 97, 100, 115, 32, 111, 117, 98, 108, 105, 101, 116, 116, 101, 47, 111, 117, 98, 108, 105, 101, 116, 116, 101, 108, 97, 119, 50, 52, 46, 83, 117, 112, 101, 114, 67, 114, 97, 115, 104, 101, 115, 32, 111, 117, 98, 108, 105, 101, 116, 116, 101, 47, 111, 117, 98, 108, 105, 101, 116, 116, 101, 108, 97, 119, 50, 51, 46, 87, 97, 108, 83, 99, 97, 110, 115, 32, 111, 117, 98, 108, 105, 101, 116, 116, 101, 47, 111, 117, 98, 108, 105, 101, 116, 116, 101, 108, 97, 119, 50, 51, 46, 87, 97, 108, 65, 112, 112, 101, 110, 100, 115, 32, 111, 117, 98, 108, 105, 101, 116, 116, 101, 47, 111, 117, 98, 108, 105, 101, 116, 116, 101, 108, 97, 119, 50, 51, 46, 87, 97, 108, 67, 114, 97, 115, 104, 101, 115]
def orderWords : List (List Nat) := [[99, 117, 116], [97, 116], [111, 117, 98, 108, 105, 101, 116, 116, 101, 47, 111, 117, 98, 108, 105, 101, 116, 116, 101, 108, 97, 119, 50, 49, 46, 71, 101, 111, 109, 83, 105, 122, 101, 115], [111, 117, 98, 108, 105, 101, 116, 116, 101, 47, 111, 117, 98, 108, 105, 101, 116, 116, 101, 108, 97, 119, 50, 49, 46, 71, 101, 111, 109, 65, 112, 97, 114, 116], [111, 117, 98, 108, 105, 101, 116, 116, 101, 47, 111, 117, 98, 108, 105, 101, 116, 116, 101, 108, 97, 119, 50, 49, 46, 71, 101, 111, 109, 80, 108, 97, 99, 101, 115], [111, 117, 98, 108, 105, 101, 116, 116, 101, 47, 111, 117, 98, 108, 105, 101, 116, 116, 101, 108, 97, 119, 49, 57, 46, 68, 105, 115, 107, 84, 101, 97, 114, 115], [111, 117, 98, 108, 105, 101, 116, 116, 101, 47, 111, 117, 98, 108, 105, 101, 116, 116, 101, 108, 97, 119, 49, 56, 46, 83, 101, 99, 116, 111, 114, 82, 101, 97, 100, 115], [111, 117, 98, 108, 105, 101, 116, 116, 101, 47, 111, 117, 98, 108, 105, 101, 116, 116, 101, 108, 97, 119, 49, 56, 46, 83, 101, 99, 116, 111, 114, 66, 121, 116, 101, 115], [111, 117, 98, 108, 105, 101, 116, 116, 101, 47, 111, 117, 98, 108, 105, 101, 116, 116, 101, 108, 97, 119, 49, 56, 46, 83, 101, 99, 116, 111, 114, 66, 97, 99, 107], [111, 117, 98, 108, 105, 101, 116, 116, 101, 47, 111, 117, 98, 108, 105, 101, 116, 116, 101, 108, 97, 119, 49, 57, 46, 68, 105, 115, 107, 80, 108, 97, 121, 115], [111, 117, 98, 108, 105, 101, 116, 116, 101, 47, 111, 117, 98, 108, 105, 101, 116, 116, 101, 108, 97, 119, 49, 57, 46, 68, 105, 115, 107, 75, 101, 101, 112, 115], [111, 117, 98, 108, 105, 101, 116, 116, 101, 47, 111, 117, 98, 108, 105, 101, 116, 116, 101, 108, 97, 119, 50, 57, 46, 82, 111, 111, 116, 80, 117, 116, 115], [111, 117, 98, 108, 105, 101, 116, 116, 101, 47, 111, 117, 98, 108, 105, 101, 116, 116, 101, 108, 97, 119, 50, 57, 46, 82, 111, 111, 116, 82, 101, 97, 100, 115], [111, 117, 98, 108, 105, 101, 116, 116, 101, 47, 111, 117, 98, 108, 105, 101, 116, 116, 101, 108, 97, 119, 50, 57, 46, 82, 111, 111, 116, 67, 114, 97, 115, 104, 101, 115], [111, 117, 98, 108, 105, 101, 116, 116, 101, 47, 111, 117, 98, 108, 105, 101, 116, 116, 101, 108, 97, 119, 50, 52, 46, 83, 117, 112, 101, 114, 87, 114, 105, 116, 101, 115], [111, 117, 98, 108, 105, 101, 116, 116, 101, 47, 111, 117, 98, 108, 105, 101, 116, 116, 101, 108, 97, 119, 50, 53, 46, 83, 110, 97, 112, 87, 114, 105, 116, 101, 115], [111, 117, 98, 108, 105, 101, 116, 116, 101, 47, 111, 117, 98, 108, 105, 101, 116, 116, 101, 108, 97, 119, 50, 53, 46, 83, 110, 97, 112, 65, 112, 97, 114, 116], [111, 117, 98, 108, 105, 101, 116, 116, 101, 47, 111, 117, 98, 108, 105, 101, 116, 116, 101, 108, 97, 119, 50, 52, 46, 83, 117, 112, 101, 114, 82, 101, 97, 100, 115], [111, 117, 98, 108, 105, 101, 116, 116, 101, 47, 111, 117, 98, 108, 105, 101, 116, 116, 101, 108, 97, 119, 50, 53, 46, 83, 110, 97, 112, 82, 101, 97, 100, 115], [111, 117, 98, 108, 105, 101, 116, 116, 101, 47, 111, 117, 98, 108, 105, 101, 116, 116, 101, 108, 97, 119, 50, 52, 46, 83, 117, 112, 101, 114, 67, 114, 97, 115, 104, 101, 115], [111, 117, 98, 108, 105, 101, 116, 116, 101, 47, 111, 117, 98, 108, 105, 101, 116, 116, 101, 108, 97, 119, 50, 51, 46, 87, 97, 108, 83, 99, 97, 110, 115], [111, 117, 98, 108, 105, 101, 116, 116, 101, 47, 111, 117, 98, 108, 105, 101, 116, 116, 101, 108, 97, 119, 50, 51, 46, 87, 97, 108, 65, 112, 112, 101, 110, 100, 115], [111, 117, 98, 108, 105, 101, 116, 116, 101, 47, 111, 117, 98, 108, 105, 101, 116, 116, 101, 108, 97, 119, 50, 51, 46, 87, 97, 108, 67, 114, 97, 115, 104, 101, 115]]
theorem order_text : Try.prog.initOrder = String.ofList (orderCodes.map Char.ofNat) := by kernel_rfl
theorem order_chars : Try.prog.initOrder.toList = orderCodes.map Char.ofNat := by rw [order_text]; exact String.toList_ofList
theorem order_words : behindMainWord (wordsSigns Try.prog.initOrder.toList) = orderWords.map (List.map Char.ofNat) := by
  rw [order_chars]
  kernel_rfl
theorem order_strip : stripLifts liftWords (orderWords.map (List.map Char.ofNat)) = ([], orderWords.map (List.map Char.ofNat)) := by kernel_rfl
theorem order_cons : ∃ c rest, orderWords.map (List.map Char.ofNat) = c :: rest ∧ c = "cut".toList := ⟨_, _, rfl, by kernel_rfl⟩

theorem lifts_of {P : Program} {ws : List (List Char)} (h : behindMainWord (wordsSigns P.initOrder.toList) = ws) (hs : stripLifts liftWords ws = ([], ws)) : P.headLifts = [] := by
  unfold Program.headLifts
  rw [h, hs]
  dsimp only
  split <;> rfl
theorem make_of {P : Program} {ws : List (List Char)} (h : behindMainWord (wordsSigns P.initOrder.toList) = ws) (hc : ∃ c rest, ws = c :: rest ∧ c = "cut".toList) : P.make = some .cut := by
  obtain ⟨c, rest, rfl, rfl⟩ := hc
  unfold Program.make
  rw [h]
  dsimp only
  rw [if_neg (by decide), if_pos (by simp)]
theorem final_of {P : Program} {ws : List (List Char)} (h : behindMainWord (wordsSigns P.initOrder.toList) = ws) (hs : stripLifts liftWords ws = ([], ws)) (hc : ∃ c rest, ws = c :: rest ∧ c = "cut".toList) : P.liftsFinal = false := by
  obtain ⟨c, rest, rfl, rfl⟩ := hc
  unfold Program.liftsFinal
  rw [lifts_of h hs, h]
  simp
theorem enter_of {P : Program} {ws : List (List Char)} (h : behindMainWord (wordsSigns P.initOrder.toList) = ws) (hs : stripLifts liftWords ws = ([], ws)) (hc : ∃ c rest, ws = c :: rest ∧ c = "cut".toList)
    (hl : P.laysLater = false) (hr : P.bearsReflect = false) (hd : P.doorRows = []) : P.mayEnter = true := by
  obtain ⟨c, rest, rfl, rfl⟩ := hc
  unfold Program.mayEnter
  rw [h]
  dsimp only
  rw [hs]
  simp [hl, hr, Program.doorFits, hd]
theorem lays_fact : Try.prog.laysLater = false := by kernel_rfl
theorem refl_fact : Try.prog.bearsReflect = false := by kernel_rfl
theorem door_fact : Try.prog.doorRows = [] := by kernel_rfl
theorem enter_fact : Try.prog.mayEnter = true := enter_of order_words order_strip order_cons lays_fact refl_fact door_fact
theorem final_fact : Try.prog.liftsFinal = false := final_of order_words order_strip order_cons
theorem make_fact : Try.prog.make = some .cut := make_of order_words order_cons
theorem own_fact : ownKnob Try.prog.godebug = none := by kernel_rfl
theorem laid_fact : laidOutB Try.prog = true := by kernel_rfl
theorem maps_fact : mapsRowed Try.prog = true := by kernel_rfl
theorem heard_fact : Try.prog.stopsHeard = true := by kernel_rfl
theorem keys_fact : Try.prog.plainKeys = false := by kernel_rfl
theorem stops_fact : Try.prog.stops = [] := by kernel_rfl
theorem knobs_fact : Try.prog.stopKnobs = [] := by kernel_rfl
end Go.Proofs.Ytdjndeleafhglaa
namespace Go.Proofs.Ytdjndeleafhglaa
open Go.RowKit Go.ChangeShapes Go.WideShapes Go.ChangeAt

/-- What came in: two sectors, and bytes. -/
structure SecIn (w : World) (x : Sec) (A : Option Addr) (c : Nat) : Prop where
  at_ : BytesAt w A x.body.length x.body
  cap : x.body.length ≤ c
  life : x.life < 18446744073709551616
  gen : x.gen < 18446744073709551616
  big : x.body.length ≤ maxLen
theorem SecIn.below {w w' : World} {x : Sec} {A : Option Addr} {c : Nat} (h : SecIn w x A c) (hb : Below w.heap.size w w') : SecIn w' x A c := ⟨h.at_.below hb, h.cap, h.life, h.gen, h.big⟩

theorem ofInts (zs : List Int) (h : ∀ n ∈ zs, 0 ≤ n ∧ n ≤ 255) : ∃ l : List UInt8, l.length = zs.length ∧ ∀ i : Nat, i < zs.length → ∃ b, l[i]? = some b ∧ (b.toNat : Int) = zs.getD i 0 := by
  refine ⟨zs.map fun n => UInt8.ofNat n.toNat, by simp, fun i hi => ⟨UInt8.ofNat (zs[i]).toNat, by simp [hi], ?_⟩⟩
  have := h zs[i] (List.getElem_mem hi)
  rw [UInt8.toNat_ofNat_of_lt' (by simp only [UInt8.size]; omega)]
  simp [List.getD, hi]
  omega

theorem opened_bytes {H : Type} {enc : TypeId × Value → H} {P : Program} {W : World} {t e : TypeId} {fuel : Nat} {cs : List Value} {x : DataW H × List MemPlace} (ht : P.underlying t = some (.slice e)) (he : P.underlying e = some (.int .u8)) (hc : P.cellsOf e = 1)
    (h : DataW.trod enc P W 0 (fun _ => true) true fuel t cs = some x) :
    ∃ (A : Option Addr) (n c : Nat) (l : List UInt8), cs = [.slice A n c] ∧ BytesAt W A n l ∧ n ≤ c ∧ n ≤ maxLen := by
  rcases open_ints ht he hc h with ⟨hcs, _⟩ | ⟨a, len, cap, zs, hcs, _, hl, hm, hz, _, hcell, hwf⟩
  · exact ⟨none, 0, 0, [], hcs, BytesAt.nil _, Nat.le_refl _, Nat.zero_le _⟩
  · simp only [if_true] at hz
    obtain ⟨l, hll, hlg⟩ := ofInts zs (fun n hn => bounds_u8 (hwf n hn))
    refine ⟨some a, len, cap, l.take len, hcs, ⟨by rw [List.length_take]; omega, fun hn => ?_⟩, hl, Nat.le_trans hl hm⟩
    obtain ⟨ab, ao, spot⟩ := a
    have hspot : spot = none := by simpa [Addr.add] using World.cell?_spot (hcell 0 (by omega))
    subst hspot
    refine ⟨ab, ao, rfl, fun j u hu => ?_⟩
    have hj : j < len := by have := (List.getElem?_eq_some_iff.1 hu).1; rw [bytesV_length, List.length_take] at this; omega
    obtain ⟨b, hb, hbz⟩ := hlg j (by omega)
    have hcj := hcell j (by omega)
    rw [Addr.add_mid] at hcj
    rw [hcj, ← hbz]
    simp only [bytesV, List.getElem?_map, List.getElem?_take, if_pos hj, hb, Option.map_some, Option.some.injEq] at hu
    rw [← hu]

theorem array5 {α : Type} {cs : Array α} (h : cs.size = 5) : ∃ c0 c1 c2 c3 c4, cs = #[c0, c1, c2, c3, c4] := by
  obtain ⟨l⟩ := cs
  match l, h with
  | [c0, c1, c2, c3, c4], _ => exact ⟨c0, c1, c2, c3, c4, rfl⟩
theorem list5 {α : Type} {cs : List α} (h : cs.length = 5) : ∃ c0 c1 c2 c3 c4, cs = [c0, c1, c2, c3, c4] := by
  match cs, h with
  | [c0, c1, c2, c3, c4], _ => exact ⟨c0, c1, c2, c3, c4, rfl⟩

theorem sec_cells : Try.prog.cellsOf 60 = 5 := by kernel_rfl
theorem sec_fields : ∃ f0 f1 f2 f3 f4 : Field, Try.prog.underlying 60 = some (.struct #[f0, f1, f2, f3, f4]) ∧ f0.type = 3 ∧ f1.type = 28 ∧ f2.type = 3 ∧ f3.type = 28 ∧ f4.type = 41 ∧
    f0.offset = 0 ∧ f1.offset = 1 ∧ f2.offset = 2 ∧ f3.offset = 3 ∧ f4.offset = 4 :=
  ⟨_, _, _, _, _, Try.underlying60, rfl, rfl, rfl, rfl, rfl, rfl, rfl, rfl, rfl, rfl⟩
theorem cells_int : Try.prog.cellsOf 3 = 1 := by kernel_rfl
theorem cells_u64 : Try.prog.cellsOf 28 = 1 := by kernel_rfl
theorem cells_u8 : Try.prog.cellsOf 5 = 1 := by kernel_rfl
theorem cells_bytes : Try.prog.cellsOf 41 = 1 := by kernel_rfl

/-- A sector's cells that came in. -/
theorem opened_sec {H : Type} {enc : TypeId × Value → H} {W : World} {fuel : Nat} {cs : List Value} {x : DataW H × List MemPlace} (h : DataW.trod enc Try.prog W 0 (fun _ => true) true fuel 60 cs = some x) :
    ∃ (s : Sec) (A : Option Addr) (c : Nat), cs = [.int .i64 s.kind, .int .u64 (s.life : Int), .int .i64 s.seq, .int .u64 (s.gen : Int), .slice A s.body.length c] ∧ SecIn W s A c := by
  obtain ⟨f0, f1, f2, f3, f4, hs, t0, t1, t2, t3, t4, o0, o1, o2, o3, o4⟩ := sec_fields
  obtain ⟨xs, n, _, rfl, hl, hlen, hf⟩ := DataW.trod_struct hs h
  rw [sec_cells] at hl
  obtain ⟨c0, c1, c2, c3, c4, rfl⟩ := list5 hl
  have h0 := hf 0 f0 rfl
  have h1 := hf 1 f1 rfl
  have h2 := hf 2 f2 rfl
  have h3 := hf 3 f3 rfl
  have h4 := hf 4 f4 rfl
  rw [t0, o0, cells_int] at h0
  rw [t1, o1, cells_u64] at h1
  rw [t2, o2, cells_int] at h2
  rw [t3, o3, cells_u64] at h3
  rw [t4, o4, cells_bytes] at h4
  have hx : ∀ i, i < 5 → ∃ y, xs[i]? = some y := fun i hi => ⟨_, List.getElem?_eq_getElem (by rw [hlen]; exact hi)⟩
  obtain ⟨y0, e0⟩ := hx 0 (by decide)
  obtain ⟨y1, e1⟩ := hx 1 (by decide)
  obtain ⟨y2, e2⟩ := hx 2 (by decide)
  obtain ⟨y3, e3⟩ := hx 3 (by decide)
  obtain ⟨y4, e4⟩ := hx 4 (by decide)
  rw [e0] at h0; rw [e1] at h1; rw [e2] at h2; rw [e3] at h3; rw [e4] at h4
  obtain ⟨n0, g0, _, _⟩ := DataW.trod_int Try.underlying3 h0
  obtain ⟨n1, g1, _, w1⟩ := DataW.trod_int Try.underlying28 h1
  obtain ⟨n2, g2, _, _⟩ := DataW.trod_int Try.underlying3 h2
  obtain ⟨n3, g3, _, w3⟩ := DataW.trod_int Try.underlying28 h3
  obtain ⟨A, m, c, l, g4, hb, hc, hbig⟩ := opened_bytes Try.underlying41 Try.underlying5 cells_u8 h4
  obtain rfl : c0 = .int .i64 n0 := by simpa using g0
  obtain rfl : c1 = .int .u64 n1 := by simpa using g1
  obtain rfl : c2 = .int .i64 n2 := by simpa using g2
  obtain rfl : c3 = .int .u64 n3 := by simpa using g3
  obtain rfl : c4 = .slice A m c := by simpa using g4
  have b1 := bounds_u64 w1
  have b3 := bounds_u64 w3
  have hl := hb.len
  subst hl
  refine ⟨⟨n0, n1.toNat, n2, n3.toNat, l⟩, A, c, ?_, hb, hc, by simp only; omega, by simp only; omega, hbig⟩
  simp only [List.cons.injEq, Value.int.injEq, true_and, and_true]
  omega
set_option maxRecDepth 100000 in
theorem opened_secV {H : Type} {enc : TypeId × Value → H} {W : World} {base : Nat} {v : Value} {d : DataW H} {p : List MemPlace} (hval : Value.okWide Try.prog W .any base 60 v) (h : DataW.Trod enc Try.prog W 0 (fun _ => true) true 60 v d p) :
    ∃ (s : Sec) (A : Option Addr) (c : Nat), v = secV s A c ∧ SecIn W s A c := by
  obtain ⟨f0, f1, f2, f3, f4, hs, _⟩ := sec_fields
  obtain ⟨cs, rfl, _⟩ := okWide_struct hs hval
  obtain ⟨fuel, hf⟩ := h
  obtain ⟨s, A, c, hcs, hin⟩ := opened_sec hf
  refine ⟨s, A, c, ?_, hin⟩
  have : cs.toList = _ := hcs
  unfold secV
  congr 1
  exact Array.toList_inj.1 this
set_option maxRecDepth 100000 in
theorem opened_bytesV {H : Type} {enc : TypeId × Value → H} {W : World} {base : Nat} {v : Value} {d : DataW H} {p : List MemPlace} (hval : Value.okWide Try.prog W .any base 41 v) (h : DataW.Trod enc Try.prog W 0 (fun _ => true) true 41 v d p) :
    ∃ (A : Option Addr) (n c : Nat) (l : List UInt8), v = .slice A n c ∧ BytesAt W A n l ∧ n ≤ c := by
  obtain ⟨a1, len, cap, rfl⟩ := okWide_slice Try.underlying41 hval
  obtain ⟨fuel, hf⟩ := h
  obtain ⟨A, n, c, l, hcs, hb, hc, _⟩ := opened_bytes Try.underlying41 Try.underlying5 cells_u8 hf
  refine ⟨A, n, c, l, ?_, hb, hc⟩
  simpa [Value.cells] using hcs

theorem cells_ints : Try.prog.cellsOf 29 = 1 := by kernel_rfl

theorem opened_ints_cells {H : Type} {enc : TypeId × Value → H} {P : Program} {W : World} {t e : TypeId} {fuel : Nat} {cs : List Value} {x : DataW H × List MemPlace} (ht : P.underlying t = some (.slice e)) (he : P.underlying e = some (.int .i64)) (hc : P.cellsOf e = 1)
    (h : DataW.trod enc P W 0 (fun _ => true) true fuel t cs = some x) :
    ∃ (A : Option Addr) (n c : Nat) (ks : List Int), cs = [.slice A n c] ∧ IntsAt W A n ks ∧ n ≤ c ∧ n ≤ maxLen ∧ (0 < n → ∀ g o, A = some ⟨g, o, none⟩ → g < W.heap.size) := by
  rcases open_ints ht he hc h with ⟨hcs, _⟩ | ⟨a, len, cap, zs, hcs, _, hl, hm, hz, _, hcell, _⟩
  · exact ⟨none, 0, 0, [], hcs, ⟨rfl, fun h => by omega⟩, Nat.le_refl _, Nat.zero_le _, fun h => by omega⟩
  · simp only [if_true] at hz
    have hat : 0 < len → ∃ g o, some a = some (⟨g, o, none⟩ : Addr) ∧ W.rangeAt g o (intsV (zs.take len)) := fun hn => by
      obtain ⟨ab, ao, spot⟩ := a
      have hspot : spot = none := by simpa [Addr.add] using World.cell?_spot (hcell 0 (by omega))
      subst hspot
      refine ⟨ab, ao, rfl, fun j u hu => ?_⟩
      have hj : j < len := by have := (List.getElem?_eq_some_iff.1 hu).1; rw [intsV_length, List.length_take] at this; omega
      have := hcell j (by omega)
      rw [Addr.add_mid] at this
      rw [this]
      simp only [intsV, List.getElem?_map, List.getElem?_take, if_pos hj, List.getElem?_eq_getElem (show j < zs.length by omega), Option.map_some, Option.some.injEq] at hu
      rw [← hu]
      simp [List.getD, List.getElem?_eq_getElem (show j < zs.length by omega)]
    refine ⟨some a, len, cap, zs.take len, hcs, ⟨by rw [List.length_take]; omega, hat⟩, hl, Nat.le_trans hl hm, fun hn g o hg => ?_⟩
    obtain ⟨g', o', hg', hr⟩ := hat hn
    rw [hg] at hg'
    injection hg' with hg'
    injection hg' with h1 h2
    subst h1
    exact rangeAt_lt hr (by rw [intsV_length, List.length_take]; omega)

theorem choose_list {α β : Type} (R : α → β → Prop) (l : List α) (h : ∀ x ∈ l, ∃ y, R x y) : ∃ m : List β, m.length = l.length ∧ ∀ (k : Nat) x, l[k]? = some x → ∃ y, m[k]? = some y ∧ R x y := by
  induction l with
  | nil => exact ⟨[], rfl, fun k x hx => by simp at hx⟩
  | cons a l ih =>
    obtain ⟨y, hy⟩ := h a List.mem_cons_self
    obtain ⟨m, hm, hr⟩ := ih (fun x hx => h x (List.mem_cons_of_mem _ hx))
    refine ⟨y :: m, by simp [hm], fun k x hx => ?_⟩
    cases k with
    | zero => obtain rfl : a = x := by simpa using hx
              exact ⟨y, rfl, hy⟩
    | succ k => exact hr k x (by simpa using hx)


/-- A row in memory, of elements that lie in sz cells each. -/
structure RowsAt (w : World) (A : Option Addr) (sz : Nat) (l : List (List Value)) : Prop where
  at_ : 0 < l.length → ∃ g o, A = some ⟨g, o, none⟩ ∧ ∀ (k : Nat) x, l[k]? = some x → w.rangeAt g (o + k * sz) x
/-- A slice that came in, of elements of which each is opened by 'he'. -/
theorem opened_slice {H : Type} {enc : TypeId × Value → H} {P : Program} {W : World} {α : Type} {t e : TypeId} (f : α → List Value) (R : α → Prop) (sz : Nat) (hsz : 0 < sz) (hf : ∀ a, (f a).length = sz)
    (ht : P.underlying t = some (.slice e)) (hc : P.cellsOf e = sz) (he : ∀ (fuel : Nat) (cs : List Value) (x : DataW H × List MemPlace), DataW.trod enc P W 0 (fun _ => true) true fuel e cs = some x → ∃ a, cs = f a ∧ R a)
    {fuel : Nat} {cs : List Value} {x : DataW H × List MemPlace} (h : DataW.trod enc P W 0 (fun _ => true) true fuel t cs = some x) :
    ∃ (A : Option Addr) (c : Nat) (l : List α), cs = [.slice A l.length c] ∧ RowsAt W A sz (l.map f) ∧ (∀ a ∈ l, R a) ∧ l.length ≤ c ∧ l.length ≤ maxLen := by
  rcases DataW.trod_slice ht h with ⟨hcs, _⟩ | ⟨a, len, cap, elems, rest, n, _, hcs, _, _, hl, hm, hlen, hel, _, _⟩
  · exact ⟨none, 0, [], hcs, ⟨fun h => by simp at h⟩, fun x hx => by simp at hx, Nat.le_refl _, Nat.zero_le _⟩
  · have hone : ∀ i, i < len → ∃ x : α, (∀ j u, (f x)[j]? = some u → W.cell? ((a.add (i * sz)).add j) = some u) ∧ R x := by
      intro i hi
      have hi2 := hel i hi
      rw [hc, List.getElem?_eq_getElem (by omega), Option.bind_eq_some_iff] at hi2
      obtain ⟨cs, hcs, ht⟩ := hi2
      obtain ⟨x, rfl, hx⟩ := he _ _ _ ht
      refine ⟨x, fun j u hu => ?_, hx⟩
      obtain ⟨q1, q2, q3⟩ := World.cells?_some hcs
      have hj : j < sz := by have := (List.getElem?_eq_some_iff.1 hu).1; rw [hf] at this; exact this
      rw [q3 j hj, hu]
    obtain ⟨l, hll, hr⟩ := choose_list (fun i (x : α) => (∀ j u, (f x)[j]? = some u → W.cell? ((a.add (i * sz)).add j) = some u) ∧ R x) (List.range len) (fun i hi => hone i (List.mem_range.1 hi))
    rw [List.length_range] at hll
    have hget : ∀ (k : Nat) x, l[k]? = some x → (∀ j u, (f x)[j]? = some u → W.cell? ((a.add (k * sz)).add j) = some u) ∧ R x := by
      intro k x hx
      have hk : k < len := by rw [← hll]; exact (List.getElem?_eq_some_iff.1 hx).1
      obtain ⟨y, hy, hR⟩ := hr k k (by rw [List.getElem?_range hk])
      rw [hx] at hy
      cases hy
      exact hR
    refine ⟨some a, cap, l, by rw [hll]; exact hcs, ⟨fun h0 => ?_⟩, fun x hx => ?_, by omega, by omega⟩
    · rw [List.length_map] at h0
      obtain ⟨x0, hx0⟩ : ∃ x, l[0]? = some x := ⟨_, List.getElem?_eq_getElem h0⟩
      obtain ⟨ab, ao, spot⟩ := a
      obtain ⟨v0, hv0⟩ : ∃ v, (f x0)[0]? = some v := ⟨_, List.getElem?_eq_getElem (by rw [hf]; exact hsz)⟩
      have h00 := (hget 0 x0 hx0).1 0 _ hv0
      have hspot : spot = none := by simpa [Addr.add] using World.cell?_spot h00
      subst hspot
      refine ⟨ab, ao, rfl, fun k x hx j u hu => ?_⟩
      rw [List.getElem?_map, Option.map_eq_some_iff] at hx
      obtain ⟨y, hy, rfl⟩ := hx
      have := (hget k y hy).1 j u hu
      rw [Addr.add_mid, Addr.add_mid] at this
      exact this
    · obtain ⟨k, hk⟩ := List.getElem?_of_mem hx
      exact (hget k x hk).2

end Go.Proofs.Ytdjndeleafhglaa
namespace Go.Proofs.Ytdjndeleafhglaa
open Go.RowKit

theorem BytesAt.lt {w : World} {g o n : Nat} {l : List UInt8} (h : BytesAt w (some ⟨g, o, none⟩) n l) (hn : 0 < n) : g < w.heap.size := by
  obtain ⟨g', o', he, hr⟩ := h.at_ hn
  cases he
  exact rangeAt_lt hr (by rw [bytesV_length, h.len]; exact hn)

/-- Which of two. -/
def pick2 (a b : Sec) (k : Nat) : Sec := if k = 0 then a else b
/-- The pair of disk and sums behind the first k. -/
def layK (a b : Sec) (n p : Nat) : Nat → DS × List (List UInt8)
  | 0 => (newD n, [])
  | k + 1 => layD (layK a b n p k) (p + k) (pick2 a b k)
/-- The key that must be read, of the first k. -/
def wantR (a b : Sec) (gen k : Nat) : List UInt8 := if rplace gen < k ∧ rightS (rplace gen : Int) (pick2 a b (rplace gen)) = 0 ∧ rootIs gen (pick2 a b (rplace gen)) then (pick2 a b (rplace gen)).body else []

theorem layK_ok (a b : Sec) {n p : Nat} (hn : p + 2 ≤ n) : ∀ k, k ≤ 2 → Calm (layK a b n p k).1 ∧ (layK a b n p k).1.n = n ∧ (layK a b n p k).1.fuse = -1 ∧ (layK a b n p k).2.length ≤ k ∧ Few (layK a b n p k).1 k
  | 0, _ => ⟨Calm.new n, rfl, rfl, Nat.le_refl _, Few.new n⟩
  | k + 1, hk => by
    obtain ⟨h1, h2, h3, h4, h5⟩ := layK_ok a b hn k (by omega)
    obtain ⟨g1, g2, g3, g4, g5, g6⟩ := layD_ok (U := (layK a b n p k).2) h1 (i := p + k) (by omega) (pick2 a b k)
    exact ⟨g1, g2.trans h2, g3.trans h3, Nat.le_trans g5 (by omega), layD_few h5 _ _⟩
theorem layK_pre (a b : Sec) {n p : Nat} (hn : p + 2 ≤ n) (k : Nat) (hk : k < 2) : (layK a b n p k).2 <+: (layK a b n p (k + 1)).2 := by
  obtain ⟨h1, h2, _⟩ := layK_ok a b hn k (by omega)
  exact (layD_ok (U := (layK a b n p k).2) h1 (i := p + k) (by omega) (pick2 a b k)).2.2.2.1
/-- What is kept at either place. -/
theorem layK_at (a b : Sec) {n p : Nat} (hn : p + 2 ≤ n) (j : Nat) (hj : j < 2) : (layK a b n p 2).1.kept (p + j) = if rightS ((p + j : Nat) : Int) (pick2 a b j) = 0 then (encU (layK a b n p j).2 ((p + j : Nat) : Int) (pick2 a b j)).1 else blankS := by
  have step : ∀ k, k < 2 → (layK a b n p (k + 1)).1.kept = (fun q => if q = p + k ∧ rightS ((p + k : Nat) : Int) (pick2 a b k) = 0 then (encU (layK a b n p k).2 ((p + k : Nat) : Int) (pick2 a b k)).1 else (layK a b n p k).1.kept q) := fun k hk => by
    obtain ⟨h1, h2, _⟩ := layK_ok a b hn k (by omega)
    exact (layD_ok (U := (layK a b n p k).2) h1 (i := p + k) (by omega) (pick2 a b k)).2.2.2.2.2
  have s0 := step 0 (by decide)
  have s1 := step 1 (by decide)
  have hz : ∀ q, (layK a b n p 0).1.kept q = blankS := fun q => rfl
  match j, hj with
  | 0, _ =>
    rw [s1]
    simp only
    rw [if_neg (by omega), s0]
    simp only [Nat.add_zero, true_and]
    split
    · rfl
    · exact hz _
  | 1, _ =>
    rw [s1]
    simp only [true_and]
    split
    · rfl
    · rw [s0]
      simp only
      rw [if_neg (by omega)]
      exact hz _
theorem layK_pre2 (a b : Sec) {n p : Nat} (hn : p + 2 ≤ n) (j : Nat) (hj : j < 2) : (layK a b n p (j + 1)).2 <+: (layK a b n p 2).2 := by
  match j, hj with
  | 0, _ => exact layK_pre a b hn 1 (by decide)
  | 1, _ => exact List.prefix_rfl
theorem layK_dec (a b : Sec) {n p : Nat} (hn : p + 2 ≤ n) (j : Nat) (hj : j < 2) (hl : (pick2 a b j).life < 18446744073709551616) (hg : (pick2 a b j).gen < 18446744073709551616) (hr : rightS ((p + j : Nat) : Int) (pick2 a b j) = 0) :
    decU (layK a b n p 2).2 ((p + j : Nat) : Int) ((layK a b n p 2).1.kept (p + j)) = (0, pick2 a b j) := by
  rw [layK_at a b hn j hj, if_pos hr]
  refine decU_enc hr hl hg ?_
  have h1 : (encU (layK a b n p j).2 ((p + j : Nat) : Int) (pick2 a b j)).2 = (layK a b n p (j + 1)).2 := by
    show _ = (layD (layK a b n p j) (p + j) (pick2 a b j)).2
    unfold layD
    rw [if_pos hr]
  rw [h1]
  exact layK_pre2 a b hn j hj

/-- Which key is read behind both. -/
theorem rkey_lay (a b : Sec) (gen : Nat) (ha : a.life < 18446744073709551616 ∧ a.gen < 18446744073709551616) (hb : b.life < 18446744073709551616 ∧ b.gen < 18446744073709551616) :
    rkeyB (layK a b 2 0 2).2 gen ((layK a b 2 0 2).1.kept (rplace gen)) = if wantR a b gen 2 = [] then ([], 11) else (wantR a b gen 2, 0) := by
  have hp := rplace_lt gen
  have hlg : (pick2 a b (rplace gen)).life < 18446744073709551616 ∧ (pick2 a b (rplace gen)).gen < 18446744073709551616 := by unfold pick2; split <;> assumption
  have hd := layK_dec a b (n := 2) (p := 0) (by decide) (rplace gen) hp hlg.1 hlg.2
  have ht := layK_at a b (n := 2) (p := 0) (by decide) (rplace gen) hp
  simp only [Nat.zero_add] at hd ht
  by_cases hr : rightS (rplace gen : Int) (pick2 a b (rplace gen)) = 0
  · have hd := hd hr
    unfold rkeyB
    rw [hd]
    simp only
    by_cases hi : rootIs gen (pick2 a b (rplace gen))
    · have hw : wantR a b gen 2 = (pick2 a b (rplace gen)).body := by unfold wantR; rw [if_pos ⟨hp, hr, hi⟩]
      have hne : (pick2 a b (rplace gen)).body ≠ [] := fun e => by have := hi.2.2.2.2; rw [e] at this; cases this
      rw [hw, if_neg hne, if_pos ⟨trivial, hi⟩]
    · have hw : wantR a b gen 2 = [] := by unfold wantR; rw [if_neg (fun h => hi h.2.2)]
      rw [hw, if_pos rfl, if_neg (fun h => hi h.2)]
  · have hw : wantR a b gen 2 = [] := by unfold wantR; rw [if_neg (fun h => hr h.2.1)]
    rw [ht, if_neg hr, hw, if_pos rfl]
    exact rkey_blank _ _

set_option maxRecDepth 100000 in
set_option maxHeartbeats 1000000 in
theorem RootReads_long (gen : Nat) (a b : Sec) (A B : Option Addr) (ca cb : Nat) (w : World) (h : 600 < a.body.length ∨ 600 < b.body.length) :
    Calls Try.prog 13 #[secV a A ca, secV b B cb, .int .u64 (gen : Int)] w fun e w' => e = .returned (.bool true) ∧ Below w.heap.size w w' := by
  have hal := fun W => alive29_any W
  have Hal := Lib.hid hal; clear hal
  unfold secV
  by_cases h1 : 600 < a.body.length
  · have h1' : (600 : Int) < (a.body.length : Int) := by omega
    go_enter Try.func13, Try.ntmps13
    go_wp2_with fail
    refine (Hal.out _).mono ?_; rintro e w1 ⟨rfl, hb1⟩
    go_wp2_with fail
    go_ret
    exact ⟨rfl, Bthen (Bnew (Bbox _ _) _) hb1⟩
  · have h1' : ¬ (600 : Int) < (a.body.length : Int) := by omega
    have h2' : (600 : Int) < (b.body.length : Int) := by omega
    go_enter Try.func13, Try.ntmps13
    go_wp2_with fail
    refine (Hal.out _).mono ?_; rintro e w1 ⟨rfl, hb1⟩
    go_wp2_with fail
    go_ret
    exact ⟨rfl, Bthen (Bnew (Bbox _ _) _) hb1⟩

def pickA (A B : Option Addr) (k : Nat) : Option Addr := if k = 0 then A else B
def pickC (ca cb : Nat) (k : Nat) : Nat := if k = 0 then ca else cb
theorem pick_in {w : World} {a b : Sec} {A B : Option Addr} {ca cb : Nat} (ha : SecIn w a A ca) (hb : SecIn w b B cb) (k : Nat) : SecIn w (pick2 a b k) (pickA A B k) (pickC ca cb k) := by
  unfold pick2 pickA pickC
  split <;> assumption
/-- The cells of two sectors in a row. -/
theorem pair_cells {w : World} {G : Nat} {a b : Sec} {A B : Option Addr} {ca cb : Nat} {t : TypeId} (h : w.heap[G]? = some (.cells #[.int .i64 a.kind, .int .u64 (a.life : Int), .int .i64 a.seq, .int .u64 (a.gen : Int), .slice A a.body.length ca, .int .i64 b.kind, .int .u64 (b.life : Int), .int .i64 b.seq, .int .u64 (b.gen : Int), .slice B b.body.length cb] t (0, 0))) (k : Nat) (hk : k < 2) :
    w.cell? ⟨G, k * 5, none⟩ = some (.int .i64 (pick2 a b k).kind) ∧ w.cell? ⟨G, k * 5 + 1, none⟩ = some (.int .u64 ((pick2 a b k).life : Int)) ∧ w.cell? ⟨G, k * 5 + 2, none⟩ = some (.int .i64 (pick2 a b k).seq) ∧
      w.cell? ⟨G, k * 5 + 3, none⟩ = some (.int .u64 ((pick2 a b k).gen : Int)) ∧ w.cell? ⟨G, k * 5 + 4, none⟩ = some (.slice (pickA A B k) (pick2 a b k).body.length (pickC ca cb k)) := by
  match k, hk with
  | 0, _ => refine ⟨?_, ?_, ?_, ?_, ?_⟩ <;> (rw [cell_of_row _ _ _ _ _ _ h]; rfl)
  | 1, _ => refine ⟨?_, ?_, ?_, ?_, ?_⟩ <;> (rw [cell_of_row _ _ _ _ _ _ h]; rfl)
theorem wantR_succ (a b : Sec) (gen k : Nat) : wantR a b gen (k + 1) = if k = rplace gen ∧ rightS (k : Int) (pick2 a b k) = 0 ∧ rootIs gen (pick2 a b k) then (pick2 a b k).body else wantR a b gen k := by
  unfold wantR
  by_cases hk : k = rplace gen
  · subst hk
    by_cases h : rightS (rplace gen : Int) (pick2 a b (rplace gen)) = 0 ∧ rootIs gen (pick2 a b (rplace gen))
    · rw [if_pos ⟨by omega, h⟩, if_pos ⟨rfl, h⟩]
    · rw [if_neg (fun e => h e.2), if_neg (fun e => h e.2), if_neg (fun e => h e.2)]
  · rw [if_neg (c := k = rplace gen ∧ _) (fun e => hk e.1)]
    by_cases hl : rplace gen < k
    · simp only [hl, show rplace gen < k + 1 by omega, true_and]
    · simp only [hl, show ¬ rplace gen < k + 1 by omega, false_and]

def secC (x : Sec) (A : Option Addr) (c : Nat) : List Value := [.int .i64 x.kind, .int .u64 (x.life : Int), .int .i64 x.seq, .int .u64 (x.gen : Int), .slice A x.body.length c]

set_option maxRecDepth 100000 in
set_option maxHeartbeats 4000000 in
theorem RootReads_yes (gen : Nat) (a b : Sec) (A B : Option Addr) (ca cb : Nat) (w : World) (hg : gen < 18446744073709551616) (ha : SecIn w a A ca) (hb : SecIn w b B cb) (hla : a.body.length ≤ 600) (hlb : b.body.length ≤ 600) :
    Calls Try.prog 13 #[secV a A ca, secV b B cb, .int .u64 (gen : Int)] w fun e w' => e = .returned (.bool true) ∧ Below w.heap.size w w' := by
  have h1' : ¬ (600 : Int) < (a.body.length : Int) := by omega
  have h2' : ¬ (600 : Int) < (b.body.length : Int) := by omega
  have hpr : (gen : Int) % 2 = (rplace gen : Int) := by unfold rplace; omega
  have hpl := rplace_lt gen
  have hX : ((w.alloc (.cells (secC a A ca).toArray 60)).alloc (.cells (secC b B cb).toArray 60)).heap[w.heap.size]? = some (.cells (secC a A ca).toArray 60 (0, 0)) := by
    rw [Below.heap_alloc _ _ _ (by simp)]; exact heap_alloc_new w _
  have hY : ((w.alloc (.cells (secC a A ca).toArray 60)).alloc (.cells (secC b B cb).toArray 60)).heap[w.heap.size + 1]? = some (.cells (secC b B cb).toArray 60 (0, 0)) := by
    have := heap_alloc_new (w.alloc (.cells (secC a A ca).toArray 60)) (.cells (secC b B cb).toArray 60)
    simpa using this
  have hB0 : Below w.heap.size w ((w.alloc (.cells (secC a A ca).toArray 60)).alloc (.cells (secC b B cb).toArray 60)) := Bnew (Bbox _ _) _
  have HX := Lib.hid hX; clear hX
  have HY := Lib.hid hY; clear hY
  have HB0 := Lib.hid hB0; clear hB0
  have Ha := Lib.hid ha; clear ha
  have Hb := Lib.hid hb; clear hb
  unfold secC at HX HY HB0
  unfold secV
  obtain ⟨p, hp⟩ : ∃ p, p = rplace gen := ⟨_, rfl⟩
  rw [← hp] at hpl hpr
  have Hp := Lib.hid hp; clear hp
  go_enter Try.func13, Try.ntmps13
  go_wp2_with fail
  have hX := HX.out
  have hY := HY.out
  have hB0 := HB0.out
  clear HX HY HB0
  change Calls _ _ _ ((w.alloc (.cells [.int .i64 a.kind, .int .u64 (a.life : Int), .int .i64 a.seq, .int .u64 (a.gen : Int), .slice A a.body.length ca].toArray 60)).alloc (.cells [.int .i64 b.kind, .int .u64 (b.life : Int), .int .i64 b.seq, .int .u64 (b.gen : Int), .slice B b.body.length cb].toArray 60)) _
  generalize (w.alloc (.cells [.int .i64 a.kind, .int .u64 (a.life : Int), .int .i64 a.seq, .int .u64 (a.gen : Int), .slice A a.body.length ca].toArray 60)).alloc (.cells [.int .i64 b.kind, .int .u64 (b.life : Int), .int .i64 b.seq, .int .u64 (b.gen : Int), .slice B b.body.length cb].toArray 60) = W at hX hY hB0 ⊢
  refine (New_yes 2 W (by decide) (by decide)).mono ?_; rintro e w1 ⟨rfl, hd1, hb1⟩
  have Hd1 := Lib.hid hd1; clear hd1
  go_wp2_with fail
  refine (Symbolic_at w1).mono ?_; rintro e w2 ⟨u, m, rfl, hs2, hu, hm, hb2⟩
  obtain ⟨S2, hd2, hB2, hS2⟩ := (Rig.made hb1 Hd1.out hs2 hu hm hb2).ex
  have Hd2 := Lib.hid hd2
  have hX2 := (hB2.block _ (blk_lt hX)).trans hX
  have hY2 := (hB2.block _ (blk_lt hY)).trans hY
  clear hs2 hd2
  obtain ⟨x0, x1, x2, x3, x4, xf⟩ := cells5 hX2
  obtain ⟨y0, y1, y2, y3, y4, yf⟩ := cells5 hY2
  go_wp2_with fail
  have hG : (w2.alloc (.cells #[.int .i64 a.kind, .int .u64 (a.life : Int), .int .i64 a.seq, .int .u64 (a.gen : Int), .slice A a.body.length ca, .int .i64 b.kind, .int .u64 (b.life : Int), .int .i64 b.seq, .int .u64 (b.gen : Int), .slice B b.body.length cb] 60)).heap[w2.heap.size]? = _ := heap_alloc_new w2 _
  have hb3 : Below w2.heap.size w2 (w2.alloc (.cells #[.int .i64 a.kind, .int .u64 (a.life : Int), .int .i64 a.seq, .int .u64 (a.gen : Int), .slice A a.body.length ca, .int .i64 b.kind, .int .u64 (b.life : Int), .int .i64 b.seq, .int .u64 (b.gen : Int), .slice B b.body.length cb] 60)) := Bbox _ _
  have hGS : ¬ S2 w2.heap.size := fun h => by have := Hd2.out.lt _ h; omega
  generalize w2.alloc (.cells #[.int .i64 a.kind, .int .u64 (a.life : Int), .int .i64 a.seq, .int .u64 (a.gen : Int), .slice A a.body.length ca, .int .i64 b.kind, .int .u64 (b.life : Int), .int .i64 b.seq, .int .u64 (b.gen : Int), .slice B b.body.length cb] 60) = w3 at hG hb3 ⊢
  generalize w2.heap.size = G at hG hGS ⊢
  have hrk := RigK.of (K := fun j => j = G) (Hd2.out.below hb3) (Bthen hB2 hb3) hS2 (fun j hj => by subst hj; exact ⟨hGS, blk_lt hG⟩)
  have Hrk := Lib.hid hrk; clear hrk hGS hX2 hY2 x0 x1 x2 x3 x4 xf y0 y1 y2 y3 y4 yf hb3
  have HG := Lib.hid hG; clear hG
  generalize W.heap.size + 1 = d at Hrk ⊢
  clear hpr
  go_loopw [11, 13] (fun v i wr => ∃ k : Nat, k ≤ 2 ∧ i = .int .i64 k ∧ (∃ Aw cw, v = .slice Aw (wantR a b gen k).length cw ∧ BytesAt w Aw (wantR a b gen k).length (wantR a b gen k)) ∧ RigK W w3 (fun j => j = G) wr d u m (layK a b 2 0 k).1 (layK a b 2 0 k).2) (fun _ i _ => 2 - (intOf i).toNat)
  case atStart => exact ⟨0, by omega, rfl, ⟨none, 0, rfl, BytesAt.nil w⟩, Hrk.out⟩
  case round =>
    obtain ⟨k, hk, rfl, ⟨Aw, cw, rfl, hwant⟩, hrig⟩ := hrel
    have Hwant := Lib.hid hwant; clear hwant
    by_cases hlt : k < 2
    · have hk2 : (k : Int) < 2 := by omega
      obtain ⟨S, hd, hB, hS, hK⟩ := hrig.ex
      obtain ⟨q1, q2, q3⟩ := hK G rfl
      have hGr := q3.trans HG.out
      obtain ⟨hcalm, hn, hf, hroom, hfew⟩ := layK_ok a b (n := 2) (p := 0) (by decide) k hk
      have hz := pick_in Ha.out Hb.out k
      have hzl : (pick2 a b k).body.length ≤ 600 := by unfold pick2; split <;> assumption
      obtain ⟨r0, r1, r2, r3, r4⟩ := pair_cells hGr k hlt
      have fc := fun x : InS (FrameW S wr) => pair_cells (x.h.heap hGr q1) k hlt
      have s0 := fun x => (fc x).1
      have s1 := fun x => (fc x).2.1
      have s2 := fun x => (fc x).2.2.1
      have s3 := fun x => (fc x).2.2.2.1
      have s4 := fun x => (fc x).2.2.2.2
      clear fc
      have hpc := fun (W : World) h => pair_cells (w := W) (G := G) (a := a) (b := b) (A := A) (B := B) (ca := ca) (cb := cb) (t := 60) h k hlt
      have hwn := wantR_succ a b gen k
      rw [← Hp.out] at hwn
      have hlayn : layK a b 2 0 (k + 1) = layD (layK a b 2 0 k) k (pick2 a b k) := by
        show layD (layK a b 2 0 k) (0 + k) (pick2 a b k) = _
        rw [Nat.zero_add]
      unfold layD at hlayn
      generalize layK a b 2 0 k = R at *
      obtain ⟨D, U⟩ := R
      simp only at hd hcalm hn hf hroom hfew hlayn
      generalize pick2 a b k = z at *
      generalize pickA A B k = Az at *
      generalize pickC ca cb k = cz at *
      have Hz := Lib.hid hz; clear hz
      have Hpc := Lib.hid hpc; clear hpc
      have Hd := Lib.hid hd; clear hd
      have Hwn := Lib.hid hwn; clear hwn
      have Hln := Lib.hid hlayn; clear hlayn
      have HK := Lib.hid hK; clear hK
      have HS := Lib.hid hS; clear hS
      have Hfew := Lib.hid hfew; clear hfew
      clear hf
      by_cases hr : rightS (k : Int) z = 0
      · have hen := fun W (hW : Below wr.heap.size wr W) => (Hd.out.below hW).encode (k : Int) z Az cz hr ((Hz.out.at_.below hB0).below (hB.trans (hW.mono hB.size))) (by omega)
        have hfs := fun (W : World) (S' : Nat → Prop) (A' : Option Addr) (c' : Nat) (h2 : Duo W d u m D (encU U (k : Int) z).2 S') (hb2 : BytesAt W A' 512 (encU U (k : Int) z).1) => h2.put (k : Int) A' 512 c' _ Hfew.out (by omega) hb2
        have hput := (put_calm hcalm (p := k) (by omega) (encU_length U (k : Int) z)).1
        rw [hput] at hfs
        have hln := Hln.out
        rw [if_pos hr, hput] at hln
        have hwn := Hwn.out
        simp only [hr, true_and] at hwn
        have Hln := Lib.hid hln
        have Hwn := Lib.hid hwn
        clear hln hwn hput
        generalize encU U (k : Int) z = E at hen hfs Hln
        obtain ⟨eb, V⟩ := E
        simp only at hen hfs Hln
        unfold secV at hen
        have Hen := Lib.hid hen; clear hen
        have Hfs := Lib.hid hfs; clear hfs
        have hri := fun W => R29Is_any gen z Az cz W
        unfold secV at hri
        have Hri := Lib.hid hri; clear hri hcalm
        go_wp2_with fail
        refine wp_region_in (FrameW S wr) [(0, true), (1, true), (2, true), (3, true), (4, true), (5, true), (6, true), (7, true), (8, true), (9, true), (10, true), (11, true), (12, true), (13, true), (14, true), (15, true), (16, true), (17, true), (18, true), (19, true), (20, true), (21, true), (22, true), (23, true), (24, true), (25, true), (26, true), (27, true), (28, false), (29, true), (30, true), (31, true), (32, true), (33, true)] (by kernel_rfl) (by kernel_rfl) (fun _ _ _ _ _ h => h) (Frame.drew (Frame.refl _ _)) (fun hne => ?_)
        simp only [permOps, List.map_cons, List.map_nil, List.getD_cons_zero, List.getD_cons_succ]
        (repeat ((with_reducible refine wpPerm_F ?_); intro K hK; go_simp; refine hK _ _ ?_; clear hK K))
        (with_reducible refine wpPerm_E rfl ?_); intro K hK
        go_wp2_with fail
        refine (Hen.out _ (Bdrew (Bnil wr))).mono ?_; rintro e v1 ⟨A1, c1, rfl, hown, hd1, hf1⟩
        have hF1 : Frame S wr v1 := (Frame.of_below (S := S) (Bdrew (Bnil wr))).trans hf1 (fun _ h => .inl h)
        (refine hK _ _ ?_; clear hK K)
        refine ⟨inF_more hF1, ?_⟩
        (repeat ((with_reducible refine wpPerm_F ?_); intro K hK; go_simp; refine hK _ _ ?_; clear hK K))
        refine wpPerm_nil ?_
        clear s0 s1 s2 s3 s4 r0 r1 r2 r3 r4
        have hby1 := BytesAt.own hown
        have Hpu := Lib.hid (Hfs.out v1 S A1 c1 hd1 hby1)
        clear hown hby1
        have hR1 : RigK W w3 (fun j => j = G) v1 d u m D V := RigK.next hB HS.out HK.out ⟨S, hd1, hF1, fun _ h => .inl h⟩
        obtain ⟨S1, hd1', hB1, hS1, hK1⟩ := hR1.ex
        go_wp2_with fail
        refine Hpu.out.mono ?_; rintro e v2 ⟨rfl, ht⟩
        have hR2 : RigK W w3 (fun j => j = G) v2 d u m (keepD D k eb) V := by
          have hz : wr.heap.size ≤ v1.heap.size := hF1.size
          refine RigK.next (hB.trans (hF1.below HS.out hB.size)) HS.out (fun j hj => ?_) ht
          obtain ⟨k1, k2, k3⟩ := HK.out j hj
          exact ⟨k1, Nat.lt_of_lt_of_le k2 hz, (hF1.block j k2 k1).trans k3⟩
        clear hR1 hd1' hB1 hS1 hK1 ht Hpu hd1
        obtain ⟨S2', hd2', hB2', hS2', hK2'⟩ := hR2.ex
        obtain ⟨t1, t2, t3⟩ := hK2' G rfl
        obtain ⟨r0, r1, r2, r3, r4⟩ := Hpc.out _ (t3.trans HG.out)
        clear hd2' hS2' hK2' t1 t2 t3
        by_cases hkp : k = p
        · subst hkp
          by_cases hi : rootIs gen z
          · have hid : decide (rootIs gen z) = true := by simpa using hi
            rw [hid] at Hri
            have hwn := Hwn.out
            rw [if_pos ⟨rfl, hi⟩] at hwn
            have Hwn2 := Lib.hid hwn
            clear hwn hi hid
            go_wp2_with fail
            refine (Hri.out _).mono ?_; rintro e v3 ⟨rfl, hb3⟩
            have hR3 := hR2.then hb3
            have e0 := (hb3.cell (p := ⟨G, k * 5 + 4, none⟩) (World.block_lt_of_cell? _ _ r4)).trans r4
            clear r0 r1 r2 r3 r4
            go_wp2_with fail
            go_roundw
            case rel => exact ⟨k + 1, by omega, by go_num, ⟨Az, cz, by rw [Hwn2.out], by rw [Hwn2.out]; exact Hz.out.at_⟩, by rw [Hln.out]; exact hR3⟩
            case measure => simp [intOf]; omega
          · have hid : decide (rootIs gen z) = false := by simpa using hi
            rw [hid] at Hri
            have hwn := Hwn.out
            rw [if_neg (fun h => hi h.2)] at hwn
            have Hwn2 := Lib.hid hwn
            clear hwn hi hid
            go_wp2_with fail
            refine (Hri.out _).mono ?_; rintro e v3 ⟨rfl, hb3⟩
            have hR3 := hR2.then hb3
            clear r0 r1 r2 r3 r4
            go_wp2_with fail
            go_roundw
            case rel => exact ⟨k + 1, by omega, by go_num, ⟨Aw, cw, by rw [Hwn2.out], by rw [Hwn2.out]; exact Hwant.out⟩, by rw [Hln.out]; exact hR3⟩
            case measure => simp [intOf]; omega
        · have hwn := Hwn.out
          rw [if_neg (fun h => hkp h.1)] at hwn
          have Hwn2 := Lib.hid hwn
          have hkp' : ¬ (k : Int) = (p : Int) := by omega
          clear hwn r0 r1 r2 r3 r4
          go_wp2_with fail
          go_roundw
          case rel => exact ⟨k + 1, by omega, by go_num, ⟨Aw, cw, by rw [Hwn2.out], by rw [Hwn2.out]; exact Hwant.out⟩, by rw [Hln.out]; exact hR2⟩
          case measure => simp [intOf]; omega
      · have hen := Duo.encode_no (w := wr.drew) (u := u) (k : Int) z Az cz hr
        have hln := Hln.out
        rw [if_neg hr] at hln
        have hwn := Hwn.out
        rw [if_neg (fun h => hr h.2.1)] at hwn
        have Hln := Lib.hid hln
        have Hwn := Lib.hid hwn
        clear hln hwn
        have hrb : (rightS (k : Int) z != 0) = true := by simpa using hr
        generalize rightS (k : Int) z = f at hen hr hrb
        unfold secV at hen
        have Hen := Lib.hid hen; clear hen
        go_wp2_with fail
        refine wp_region_in (FrameW S wr) [(0, true), (1, true), (2, true), (3, true), (4, true), (5, true), (6, true), (7, true), (8, true), (9, true), (10, true), (11, true), (12, true), (13, true), (14, true), (15, true), (16, true), (17, true), (18, true), (19, true), (20, true), (21, true), (22, true), (23, true), (24, true), (25, true), (26, true), (27, true), (28, false), (29, true), (30, true), (31, true), (32, true), (33, true)] (by kernel_rfl) (by kernel_rfl) (fun _ _ _ _ _ h => h) (Frame.drew (Frame.refl _ _)) (fun hne => ?_)
        simp only [permOps, List.map_cons, List.map_nil, List.getD_cons_zero, List.getD_cons_succ]
        (repeat ((with_reducible refine wpPerm_F ?_); intro K hK; go_simp; refine hK _ _ ?_; clear hK K))
        (with_reducible refine wpPerm_E rfl ?_); intro K hK
        go_wp2_with fail
        refine Hen.out.mono ?_; rintro e v1 ⟨rfl, hb1⟩
        have hV1 : Below wr.heap.size wr v1 := Bthen (Bdrew (Bnil wr)) hb1
        (refine hK _ _ ?_; clear hK K)
        refine ⟨inF_more (Frame.of_below hV1), ?_⟩
        (repeat ((with_reducible refine wpPerm_F ?_); intro K hK; go_simp; refine hK _ _ ?_; clear hK K))
        refine wpPerm_nil ?_
        clear s0 s1 s2 s3 s4 r0 r1 r2 r3 r4
        have hR2 := hrig.then hV1
        go_wp2_with fail
        go_roundw
        case rel =>
          exact ⟨k + 1, by omega, by go_num, ⟨Aw, cw, by rw [Hwn.out], by rw [Hwn.out]; exact Hwant.out⟩, by rw [Hln.out]; exact hR2⟩
        case measure => simp [intOf]; omega
    · obtain rfl : k = 2 := by omega
      have hrig2 := hrig.rig
      obtain ⟨hcalm, hn, hf, hroom, hfew⟩ := layK_ok a b (n := 2) (p := 0) (by decide) 2 (by decide)
      have hlg := fun (x : Sec) (A : Option Addr) (c : Nat) (h : SecIn w x A c) => (⟨h.life, h.gen⟩ : x.life < 18446744073709551616 ∧ x.gen < 18446744073709551616)
      have hky := rkey_lay a b gen (hlg a A ca Ha.out) (hlg b B cb Hb.out)
      have hget := rget_calm hcalm hn (layK a b 2 0 2).2 gen
      rw [hky] at hget
      have hsetY := fun key h => rset_calm hcalm hn hf (layK a b 2 0 2).2 gen (key := key) h
      have hsetN := rset_bad hcalm hn (layK a b 2 0 2).2 gen
      rw [hky] at hsetY hsetN
      have hwl : wantR a b gen 2 ≠ [] → (wantR a b gen 2).length = 32 := fun hne => by
        unfold wantR at hne ⊢
        split
        · rename_i h; exact h.2.2.2.2.2.2
        · rename_i h; rw [if_neg h] at hne; exact absurd rfl hne
      have hkl := fun q => hfew.klen q
      clear hlg hky hrig
      generalize layK a b 2 0 2 = R at *
      obtain ⟨D, U⟩ := R
      simp only at hcalm hn hf hroom hfew hget hsetY hsetN hrig2 hkl
      generalize wantR a b gen 2 = wt at *
      obtain ⟨S, hd, hB, hS⟩ := hrig2.ex
      have hs1 : IntKind.i64.wrap (1 - (p : Int)) = ((1 - p : Nat) : Int) := (IntWalk.i64_in _ (by omega)).trans (by omega)
      have Hs1 := Lib.hid hs1; clear hs1
      have hg1 := RGet_c gen hd hg
      rw [hget] at hg1
      have Hd := Lib.hid hd; clear hd
      have Hfew := Lib.hid hfew; clear hfew
      have Hk1 := Lib.hid (hkl (1 - p) (by omega))
      have hsub : (1 : Int) - (p : Int) = ((1 - p : Nat) : Int) := by omega
      have Hsub := Lib.hid hsub; clear hsub
      have hpx : 1 - rplace gen = 1 - p := by rw [Hp.out]
      rw [hpx] at hsetY
      clear hpx hkl hcalm
      by_cases hw0 : wt = []
      · subst hw0
        rw [if_pos rfl] at hg1 hsetN
        have Hset := Lib.hid (hsetN rfl)
        have Hg1 := Lib.hid hg1
        clear hsetN hsetY hg1 hget hwl
        go_wp2_with fail
        refine Hg1.out.mono ?_; rintro e v1 ⟨A1, c1, rfl, _, hb1⟩
        have hB1 := Bthen hB hb1
        have Hd1 := Lib.hid (Hd.out.below hb1)
        have hkq := Hd1.out.kept (1 - p) (by omega)
        have Hkq := Lib.hid hkq; clear hkq
        go_wp2_with fail
        rw [Hsub.out]
        refine Hkq.out.mono ?_; rintro e v2 ⟨rfl, hby2, hb2⟩
        have hse := RSettle_c gen (Hd1.out.below hb2) Hfew.out (by decide) hg
        rw [Hset.out] at hse
        have Hse := Lib.hid hse
        have hz2 := hby2.lt (by decide)
        have hlt1 := Hd1.out.lt
        have hapart : ∀ g o, (some ⟨v1.heap.size, 0, none⟩ : Option Addr) = some ⟨g, o, none⟩ → ¬ S g := fun g o e hs => by cases e; have := hlt1 _ hs; omega
        have Hby2 := Lib.hid hby2
        clear hse hby2 hlt1
        go_wp2_with fail
        refine Hse.out.mono ?_; rintro e v3 ⟨A3, c3, rfl, _, _, ⟨S3, hd3, hf3, hS3⟩⟩
        have hz23 := hf3.size
        have hB3 : Below w.heap.size w v3 := (hB0.trans ((Bthen hB1 hb2).mono hB0.size)).trans (hf3.below (fun k hk => Nat.le_trans hB0.size (hS k hk)) (by have := hB0.size; have := (Bthen hB1 hb2).size; omega))
        have hby3 := Hby2.out.frame hf3 (fun _ => hapart)
        have hkq := hd3.kept (1 - p) (by omega)
        have Hkq3 := Lib.hid hkq
        have Hby3 := Lib.hid hby3
        clear hkq hby3 hd3 hf3 hS3
        go_wp2_with fail
        rw [Hsub.out]
        refine Hkq3.out.mono ?_; rintro e v4 ⟨rfl, hby4, hb4⟩
        have hsq := Same_any _ _ 512 512 512 512 _ _ v4 hby4 (Hby3.out.below hb4) (by decide)
        rw [show decide (D.kept (1 - p) = D.kept (1 - p)) = true by simp] at hsq
        have Hsq := Lib.hid hsq
        clear hsq hby4
        go_wp2_with fail
        refine Hsq.out.mono ?_; rintro e v5 ⟨rfl, hb5⟩
        go_wp2_with fail
        refine (alive29_any _).mono ?_; rintro e v6 ⟨rfl, hb6⟩
        go_wp2_with fail
        go_ret
        exact ⟨rfl, Bthen (Bthen (Bthen hB3 hb4) hb5) hb6⟩
      · rw [if_neg hw0] at hg1 hsetY
        obtain ⟨s1, s2, s3, s4⟩ := hsetY wt rfl
        have hset : rsetD D U gen = ((wt, 0), (rsetD D U gen).2) := Prod.ext s1 rfl
        have hk5 : (rsetD D U gen).2.kept (1 - p) = blankS := by rw [s2]; simp
        have hl32 := hwl hw0
        have hw1 : ¬ (wt.length : Int) = 0 := by omega
        have hl600 : wt.length ≤ 600 := by omega
        generalize (rsetD D U gen).2 = D5 at hset hk5 s3 s4
        have Hset := Lib.hid hset
        have Hk5 := Lib.hid hk5
        have Hg1 := Lib.hid hg1
        clear hsetN hsetY hg1 hget hwl hset hk5 s1 s2 s3 hl32
        go_wp2_with fail
        refine Hg1.out.mono ?_; rintro e v1 ⟨A1, c1, rfl, hown, hb1⟩
        have hB1 := Bthen hB hb1
        have hby1 := BytesAt.own hown
        have hap1 : 0 < wt.length → ∀ g o, A1 = some ⟨g, o, none⟩ → ¬ S g := fun _ g o e hs => by have := Hd.out.lt g hs; have := (hown.lt g (by rw [e]; rfl)).1; omega
        have Hby1 := Lib.hid hby1
        have Hd1 := Lib.hid (Hd.out.below hb1)
        have hkq := Hd1.out.kept (1 - p) (by omega)
        have Hkq := Lib.hid hkq; clear hkq hown hby1
        go_wp2_with fail
        rw [Hsub.out]
        refine Hkq.out.mono ?_; rintro e v2 ⟨rfl, hby2, hb2⟩
        have hse := RSettle_c gen (Hd1.out.below hb2) Hfew.out (by decide) hg
        rw [Hset.out] at hse
        have Hse := Lib.hid hse
        clear hse hby2
        go_wp2_with fail
        refine Hse.out.mono ?_; rintro e v3 ⟨A3, c3, rfl, hby3, _, ⟨S3, hd3, hf3, hS3⟩⟩
        have hz23 := hf3.size
        have hB3 : Below w.heap.size w v3 := (hB0.trans ((Bthen hB1 hb2).mono hB0.size)).trans (hf3.below (fun k hk => Nat.le_trans hB0.size (hS k hk)) (by have := hB0.size; have := (Bthen hB1 hb2).size; omega))
        have hk1 := (Hby1.out.below hb2).frame hf3 hap1
        have hsq := Same_any A1 Aw wt.length wt.length c1 cw wt wt v3 hk1 (Hwant.out.below hB3) (by omega)
        rw [show decide (wt = wt) = true by simp] at hsq
        have Hsq := Lib.hid hsq
        have Hby3 := Lib.hid hby3
        have Hd3 := Lib.hid hd3
        clear hsq hby3 hd3 hf3 hS3 hk1
        go_wp2_with fail
        refine Hsq.out.mono ?_; rintro e v4 ⟨rfl, hb4⟩
        have hsq := Same_any A3 Aw wt.length wt.length c3 cw wt wt v4 (Hby3.out.below hb4) ((Hwant.out.below hB3).below hb4) (by omega)
        rw [show decide (wt = wt) = true by simp] at hsq
        have Hsq4 := Lib.hid hsq
        have hkq := fun W (hW : Below v3.heap.size v3 W) => (Hd3.out.below hW).kept (1 - p) (by omega)
        rw [Hk5.out] at hkq
        have Hkq5 := Lib.hid hkq
        clear hsq hkq
        go_wp2_with fail
        refine Hsq4.out.mono ?_; rintro e v5 ⟨rfl, hb5⟩
        go_wp2_with fail
        rw [Hsub.out]
        refine (Hkq5.out v5 (Bthen hb4 hb5)).mono ?_; rintro e v6 ⟨rfl, hby6, hb6⟩
        have hrb := R18Blank_any _ 512 512 blankS v6 hby6 (by decide)
        rw [show decide (blankS = blankS) = true by simp] at hrb
        have Hrb := Lib.hid hrb
        clear hrb hby6
        go_wp2_with fail
        refine Hrb.out.mono ?_; rintro e v7 ⟨rfl, rfl⟩
        go_wp2_with fail
        refine (alive29_any _).mono ?_; rintro e v8 ⟨rfl, hb8⟩
        go_wp2_with fail
        go_ret
        exact ⟨rfl, Bthen (Bthen (Bthen (Bthen hB3 hb4) hb5) hb6) hb8⟩

theorem RootReads_walk (gen : Int) (a b : Sec) (A B : Option Addr) (ca cb : Nat) (w : World) (ha : SecIn w a A ca) (hb : SecIn w b B cb) (hg0 : 0 ≤ gen) (hg : gen < 18446744073709551616) :
    Calls Try.prog 13 #[secV a A ca, secV b B cb, .int .u64 gen] w fun e w' => e = .returned (.bool true) ∧ Below w.heap.size w w' := by
  obtain ⟨gen, rfl⟩ := Int.eq_ofNat_of_zero_le hg0
  by_cases h : 600 < a.body.length ∨ 600 < b.body.length
  · exact RootReads_long gen a b A B ca cb w h
  · exact RootReads_yes gen a b A B ca cb w (by omega) ha hb (by omega) (by omega)

end Go.Proofs.Ytdjndeleafhglaa
