/-
  Small words on worlds that all the walks use. No program stands here.
  A region that draws its order, walked once in an order of one's own choosing: operations that only look ('floaters') are taken where the order names them, those with an effect come up one at a time. No program stands here.
  How a disk lies in memory, and what it is in plain words. No walk stands here.
  The walks of the package disk: what only looks at a disk, and what turns a number of its header.
  The walks of the package disk: bytes come to be kept.
  What is pending: a place and a sector's bytes, built of an array whatever its cells.
  The walk of disk.Write.
  The walks of disk.Put, disk.Kept.
  The walk of disk.Flush.
-/
import Derived.WalkKit
import Derived.WalkSpells
import Derived.WalkLawsBesides
import Derived.Lib.Hide
import Derived.Deep.RegionWith
import Derived.Deep.QuietTactic
import Derived.BigQuiet
import Derived.Deep.RegionHeld3
import Derived.StillTailTactics
import Derived.Deep.DeepFit
import Derived.Deep.LoopGhost
import Derived.Deep.DeepCutAuto
import Derived.Deep.AppendLies
import Derived.Deep.RegionLawGrows
import Derived.Laws.CopyOwn
import Derived.Deep.Light
import Derived.OrdersHeld
import Derived.StillTail
import Derived.Deep.DrawnRows
import Derived.Maps.AppendAt
import Derived.Deep.MidRow
import Derived.Test.YtdjndeleafhglaaRows
import Derived.Great.BuildSlice
namespace Go.Proofs.Ytdjndeleafhglaa
open Go.RowKit

theorem bcell {W w1 : World} (hb : Below W.heap.size W w1) : (∀ b o, b < W.heap.size → w1.cell? ⟨b, o, none⟩ = W.cell? ⟨b, o, none⟩) ∧ (∀ b o, b < W.heap.size → w1.frozen? ⟨b, o, none⟩ = W.frozen? ⟨b, o, none⟩) :=
  ⟨fun b o h => hb.cell (p := ⟨b, o, none⟩) h, fun b o h => hb.frozen (p := ⟨b, o, none⟩) h⟩

theorem ret_int {k : IntKind} {a b : Int} (h : a = b) : Ending.returned (.int k a) = .returned (.int k b) := by rw [h]
theorem ret_ii {k k' : IntKind} {a b a' b' : Int} (h : a = b) (h' : a' = b') : Ending.returned (.tuple #[.int k a, .int k' a']) = .returned (.tuple #[.int k b, .int k' b']) := by rw [h, h']
theorem ret_bool {a b : Bool} (h : a = b) : Ending.returned (.bool a) = .returned (.bool b) := by rw [h]

/-- What has been since the call began, and then a callee. -/
theorem Bthen {w W w1 : World} (h : Below w.heap.size w W) (hb : Below W.heap.size W w1) : Below w.heap.size w w1 := h.trans (hb.mono h.size)
/-- .. and then a new block. -/
theorem Bnew {w W : World} (h : Below w.heap.size w W) (o : Obj) : Below w.heap.size w (W.alloc o) := h.alloc h.size o
theorem Bset {w W : World} (h : Below w.heap.size w W) {p : Addr} (hp : w.heap.size ≤ p.block) (v : Value) : Below w.heap.size w (W.setCell p v) := h.setCell hp v
theorem Bdrew {w W : World} (h : Below w.heap.size w W) : Below w.heap.size w W.drew := h.drew
theorem Bnil (w : World) : Below w.heap.size w w := Below.refl _ _
theorem Bbox (w : World) (o : Obj) : Below w.heap.size w (w.alloc o) := Bnew (Bnil w) o

theorem grown_of_below {w w' : World} (hb : Below w.heap.size w w') : w.grownBy w' none := ⟨hb.os, hb.tape, hb.output, hb.size, fun k hk _ => hb.block k hk⟩
theorem own_below {w w' : World} {base : Nat} {e : TypeId} {size : Nat} {v : Value} {n : Nat} {xs : List Value} (h : w.ownsRow base e size v n xs) (hb : Below w.heap.size w w') : w'.ownsRow base e size v n xs :=
  h.kept (grown_of_below hb) (by cases v.ownBlock <;> simp)

/-- A world that is, below the heap's size of W, as W is. -/
structure BW (W : World) : Type where
  w : World
  h : Below W.heap.size W w
instance (W : World) : Nonempty (BW W) := ⟨⟨W, Below.refl _ _⟩⟩
theorem BW.cell {W : World} (x : BW W) {b o : Nat} (h : b < W.heap.size) : x.w.cell? ⟨b, o, none⟩ = W.cell? ⟨b, o, none⟩ := x.h.cell (p := ⟨b, o, none⟩) h
theorem BW.frozen {W : World} (x : BW W) {b o : Nat} (h : b < W.heap.size) : x.w.frozen? ⟨b, o, none⟩ = W.frozen? ⟨b, o, none⟩ := x.h.frozen (p := ⟨b, o, none⟩) h

/-- A region that draws its order, whose operations only read, or call what writes nothing that was there: one walk in the order of the text. -/
theorem wp_region_below {P : Program} {id : Nat} {Q : Exit → Act → World → Prop} {a : Act} {W : World} {l : List Oper} (hm : P.follows .mixedOrders = true) (hB : Region.lexB .any l.toArray = true)
    (h : wpQuiet P l.toArray (fun w' => ∃ x : BW W, w' = x.w) (fun a' => ∀ w', (∃ x : BW W, w' = x.w) → Q .normal a' w') l a) : (Code.region id l.toArray true).wp P Q a W :=
  wp_region_quiet (C := fun w' => ∃ x : BW W, w' = x.w) hm hB ⟨⟨_, (Below.refl W.heap.size W).drew⟩, rfl⟩ (by simpa using h)

/-- A callee's contract within such a region. -/
theorem below_of {P : Program} {f : FuncId} {args : Array Value} {W : World} {x : BW W} {v : Value}
    (h : Calls P f args x.w fun e w' => e = .returned v ∧ Below x.w.heap.size x.w w') : Calls P f args x.w fun e w'' => e = .returned v ∧ ∃ y : BW W, w'' = y.w :=
  h.mono fun _ w' ⟨he, hb⟩ => ⟨he, ⟨w', x.h.trans (hb.mono x.h.size)⟩, rfl⟩
/-- .. of one that leaves the world as it is. -/
theorem below_eq {P : Program} {f : FuncId} {args : Array Value} {W : World} {x : BW W} {v : Value}
    (h : Calls P f args x.w fun e w' => e = .returned v ∧ x.w = w') : Calls P f args x.w fun e w'' => e = .returned v ∧ ∃ y : BW W, w'' = y.w :=
  h.mono fun _ _ ⟨he, hb⟩ => ⟨he, x, hb.symm⟩
theorem BW.then {w W : World} (x : BW W) (h : Below w.heap.size w W) : Below w.heap.size w x.w := Bthen h x.h

end Go.Proofs.Ytdjndeleafhglaa
namespace Go.Proofs.Ytdjndeleafhglaa
open Go.RowKit

section
variable {P : Program} {ops : Array Oper} {Q : Exit → Act → World → Prop} {S : World → Prop}

/-- The order is one of the region's: a floater may be taken, an effect is the only one that may come up. -/
def permB (ops : Array Oper) : List (Nat × Bool) → Array Bool → Bool
  | [], listed => (Region.ready .any ops listed).isEmpty
  | (i, true) :: rest, listed => decide (i < ops.size) && (Region.ready .any ops listed).contains i && Region.free .any ops listed i && permB ops rest (listed.setIfInBounds i true)
  | (i, false) :: rest, listed => decide (i < ops.size) && decide (Region.ready .any ops listed = [i]) && permB ops rest (listed.setIfInBounds i true)
/-- What a floater does: a value, and nothing else. -/
def okVal (w : World) (v : Value) : Result Next → Prop
  | .ok (.value u) w' => w' = w ∧ u = v
  | _ => False

attribute [go_sem] okVal

/-- The last operation of the order, if it has an effect and waits for all others: behind it nothing is asked of the world. -/
def lastB (ops : Array Oper) (L : Nat) : Bool := decide (ops.size ≤ L) || (decide (L + 1 = ops.size) && Region.sinkB .any ops L)

/-- What is listed is closed: whatever it waits for is listed. -/
structure Closed (ops : Array Oper) (listed : Array Bool) : Prop where
  size : listed.size = ops.size
  closed : ∀ j oj, ops[j]? = some oj → listed.getD j false = true → ∀ e ∈ oj.after, Region.binds .any e = true → listed.getD e.on false = true
theorem Closed.set {listed : Array Bool} {i : Nat} (inv : Closed ops listed) (hi : i ∈ Region.ready .any ops listed) : Closed ops (listed.setIfInBounds i true) := by
  obtain ⟨_, oi, hoi, hall⟩ := mem_ready.1 hi
  refine ⟨by simp [inv.size], fun j oj hj hl e he hb => ?_⟩
  by_cases hij : i = j
  · subst hij
    have : oj = oi := Option.some.inj (hj.symm.trans hoi)
    subst this
    exact getD_set_true (hall e he hb)
  · rw [getD_set_ne false hij] at hl
    exact getD_set_true (inv.closed j oj hj hl e he hb)
theorem Closed.none : Closed ops (Array.replicate ops.size false) :=
  ⟨by simp, fun j oj _ hl => by rw [getD_replicate_false] at hl; cases hl⟩
/-- While another has not come up, the last does not. -/
theorem last_waits {L i : Nat} {listed : Array Bool} (hL : lastB ops L = true) (inv : Closed ops listed) (hi : listed.getD i true = false) (hiL : i ≠ L) : L ∉ Region.ready .any ops listed := by
  intro hr
  obtain ⟨hun, oL, hoL, _⟩ := mem_ready.1 hr
  have hlt : L < ops.size := (Array.getElem?_eq_some_iff.1 hoL).1
  have his : i < ops.size := by
    rcases Nat.lt_or_ge i ops.size with h | h
    · exact h
    · rw [← inv.size] at h
      simp [Array.getElem?_eq_none h] at hi
  unfold lastB at hL
  simp only [Bool.or_eq_true, decide_eq_true_eq, Bool.and_eq_true] at hL
  rcases hL with h | ⟨h1, h2⟩
  · omega
  · refine tail_waits h2 ?_ hlt ⟨inv.size, inv.closed, fun t ht ht' => ?_⟩ (L - i) i rfl (by omega) hi L (Nat.le_refl _) hr
    · unfold Region.chainB
      rw [List.all_eq_true]
      intro t ht
      have := List.mem_range.1 ht
      simp only [Bool.or_eq_true, decide_eq_true_eq]
      left; omega
    · have : t = L := by omega
      subst this
      exact hun

/-- Whatever order is picked from here on, and 'S' holds behind every operation that is carried out, but the one of number L. -/
def wpAnyX (P : Program) (ops : Array Oper) (Q : Exit → Act → World → Prop) (S : World → Prop) (L : Nat) : Nat → Array Bool → Act → World → Prop
  | 0, listed, a, w => Region.ready .any ops listed = [] ∧ Q .normal a w
  | fuel + 1, listed, a, w =>
    (Region.ready .any ops listed = [] → Q .normal a w) ∧
    ∀ i ∈ Region.ready .any ops listed, wpOp P ops Q i (fun a' w' => (i ≠ L → S w') ∧ wpAnyX P ops Q S L fuel (listed.setIfInBounds i true) a' w') a w
theorem wpAny_of_X {L : Nat} : ∀ (fuel : Nat) (listed : Array Bool) (a : Act) (w : World), wpAnyX P ops Q S L fuel listed a w → wpAny P .any ops Q fuel listed a w
  | 0, _, _, _, h => h
  | fuel + 1, _, _, _, h => ⟨h.1, fun i hi => wpOp_mono (fun a' w' h' => wpAny_of_X fuel _ a' w' h'.2) (h.2 i hi)⟩

theorem wpAnyX_first {L i : Nat} {oi : Oper} {v : Value} (hi : ops[i]? = some oi) (hiL : i ≠ L) (hL : lastB ops L = true) (hsel : ∀ (j : Nat) (o : Oper) cs b, ops[j]? = some o → o.op ≠ .select cs b)
    (hQ : ∀ c a w, Q (.panic c) (a.put oi.dst v) w → Q (.panic c) a w) :
    ∀ (fuel : Nat) (listed : Array Bool) (a : Act) (w : World), Closed ops listed →
      (∀ j oj, ops[j]? = some oj → j ≠ i → listed.getD j true = false → (∀ e ∈ oj.after, Region.binds .any e = true → e.on ≠ i) → oi.apart ops oj = true) →
      i ∈ Region.ready .any ops listed → YieldsIf P ops S oi v a → S w →
      wpAnyX P ops Q S L fuel (listed.setIfInBounds i true) (a.put oi.dst v) w → wpAnyX P ops Q S L (fuel + 1) listed a w := by
  intro fuel
  induction fuel with
  | zero =>
    intro listed a w _ _ hr hy hS H
    refine ⟨fun h => (by rw [h] at hr; cases hr), fun j hj => ?_⟩
    by_cases hji : j = i
    · subst hji; exact hy.wpOp hi hS ⟨fun _ => hS, H⟩
    · have := ready_mono hj hji
      rw [H.1] at this
      cases this
  | succ fuel ih =>
    intro listed a w inv hfree hr hy hS H
    refine ⟨fun h => (by rw [h] at hr; cases hr), fun j hj => ?_⟩
    by_cases hji : j = i
    · subst hji; exact hy.wpOp hi hS ⟨fun _ => hS, H⟩
    · have h1 := H.2 j (ready_mono hj hji)
      obtain ⟨hjun, oj, hoj, hall⟩ := mem_ready.1 hj
      have hnot : ∀ e ∈ oj.after, Region.binds .any e = true → e.on ≠ i := fun e he hb heq => by
        have h1 := hall e he hb
        have h0 := (mem_ready.1 hr).1
        rw [heq] at h1
        rcases Nat.lt_or_ge i listed.size with h' | h'
        · simp [h'] at h0 h1; rw [h0] at h1; cases h1
        · simp [Array.getElem?_eq_none h'] at h1
      have hjL : j ≠ L := by
        rintro rfl
        exact last_waits hL inv (mem_ready.1 hr).1 hiL hj
      have h2 := wpOp_putIf hoj (hfree j oj hoj hji hjun hnot) (fun cs b => hsel i oi cs b hi) (fun cs b => hsel j oj cs b hoj) hQ hy h1
      have hfree' : ∀ k ok, ops[k]? = some ok → k ≠ i → (listed.setIfInBounds j true).getD k true = false →
          (∀ e ∈ ok.after, Region.binds .any e = true → e.on ≠ i) → oi.apart ops ok = true := fun k ok hk hki hun hno => by
        refine hfree k ok hk hki ?_ hno
        by_cases hjk : j = k
        · subst hjk; exact hjun
        · rw [getD_set_ne true hjk] at hun; exact hun
      refine wpOp_mono (fun a' w' h3 => ⟨fun _ => h3.2.1 hjL, ih (listed.setIfInBounds j true) a' w' (inv.set hj) hfree' (ready_mono hr (Ne.symm hji)) h3.1 (h3.2.1 hjL) ?_⟩) h2
      rw [Array.setIfInBounds_comm _ _ hji]
      exact h3.2.2

/-- The walk in that order. -/
def wpPerm (P : Program) (ops : Array Oper) (Q : Exit → Act → World → Prop) (S : World → Prop) : List (Bool × Oper) → Act → World → Prop
  | [], a, w => Q .normal a w
  | (true, o) :: rest, a, w =>
    if Region.wanted o (yielded ops a.tmps) then ∃ v, (∀ w', S w' → okVal w' v ((execOp a.eval o).run P w')) ∧ wpPerm P ops Q S rest (a.put o.dst v) w
    else wpPerm P ops Q S rest (a.put o.dst undef) w
  | [(false, o)], a, w =>
    if Region.wanted o (yielded ops a.tmps) then o.wp P a w (fun a' w' => Q .normal a' w') Q
    else Q .normal (a.put o.dst undef) w
  | (false, o) :: rest, a, w =>
    if Region.wanted o (yielded ops a.tmps) then o.wp P a w (fun a' w' => S w' ∧ wpPerm P ops Q S rest a' w') Q
    else wpPerm P ops Q S rest (a.put o.dst undef) w

/-- Which operation is the exempt one: the last, if it has an effect; else none. -/
def lastOf : List (Nat × Bool) → Nat → Nat
  | [], n => n
  | [(i, false)], _ => i
  | _ :: rest, n => lastOf rest n

def permOK (ops : Array Oper) (order : List (Nat × Bool)) : Bool :=
  Region.noSelect ops && decide (order.length = ops.size) && permB ops order (Array.replicate ops.size false) &&
    (lastB ops (lastOf order ops.size) && order.all fun p => !p.2 || p.1 != lastOf order ops.size)

def permOps (ops : List Oper) (order : List (Nat × Bool)) : List (Bool × Oper) := order.map fun p => (p.2, ops.getD p.1 default)

theorem okVal_spec {w : World} {v : Value} {r : Result Next} (h : okVal w v r) : r = .ok (.value v) w := by
  cases r with
  | ok n w' => cases n <;> simp only [okVal] at h <;> first | (obtain ⟨rfl, rfl⟩ := h; rfl) | exact h.elim
  | halt x w' => exact h.elim

theorem lastOf_cons {p q : Nat × Bool} {rest : List (Nat × Bool)} {n : Nat} : lastOf (p :: q :: rest) n = lastOf (q :: rest) n := by
  obtain ⟨i, f⟩ := p
  cases f <;> rfl

theorem wpPerm_any {L : Nat} (hL : lastB ops L = true) (hsel : Region.noSelect ops = true) (hQ : ∀ c (d : Nat) v a w, Q (.panic c) (Act.put a (some d) v) w → Q (.panic c) a w) :
    ∀ (order : List (Nat × Bool)) (n : Nat) (listed : Array Bool) (a : Act) (w : World), Closed ops listed → S w → permB ops order listed = true → (∀ p ∈ order, p.2 = true → p.1 ≠ L) → (order = [] ∨ lastOf order n = L) →
      wpPerm P ops Q S (permOps ops.toList order) a w → wpAnyX P ops Q S L order.length listed a w := by
  intro order
  induction order with
  | nil =>
    intro n listed a w _ _ hB _ _ h
    exact ⟨by simpa [permB] using hB, by simpa [permOps, wpPerm] using h⟩
  | cons p rest ih =>
    intro n listed a w inv hS hB hne hlast h
    obtain ⟨i, f⟩ := p
    have hlast' : rest = [] ∨ lastOf rest n = L := by
      cases rest with
      | nil => exact .inl rfl
      | cons q rest =>
        rcases hlast with h | h
        · cases h
        · rw [lastOf_cons] at h; exact .inr h
    have hne' : ∀ p ∈ rest, p.2 = true → p.1 ≠ L := fun p hp => hne p (List.mem_cons_of_mem _ hp)
    cases f with
    | true =>
      simp only [permB, Bool.and_eq_true, decide_eq_true_eq] at hB
      obtain ⟨⟨⟨hlt, hr⟩, hf⟩, hB'⟩ := hB
      have hi : ops[i]? = some ops[i] := Array.getElem?_eq_getElem hlt
      have hd : ops.toList.getD i default = ops[i] := by simp [List.getD, hlt]
      simp only [permOps, List.map_cons, hd, wpPerm] at h
      have hQ' : ∀ v, ∀ c a w, Q (.panic c) (a.put ops[i].dst v) w → Q (.panic c) a w := by
        intro v c a w hh
        cases hdst : ops[i].dst with
        | none => rw [hdst] at hh; exact hh
        | some d => rw [hdst] at hh; exact hQ c d v a w hh
      have hiL : i ≠ L := hne (i, true) (List.mem_cons_self ..) rfl
      by_cases hw : Region.wanted ops[i] (yielded ops a.tmps) = true
      · rw [if_pos hw] at h
        obtain ⟨v, hv, hK⟩ := h
        exact wpAnyX_first hi hiL hL (Region.noSelect_spec hsel) (hQ' v) _ _ _ _ inv (Region.free_spec hi hf) (by simpa using hr) (.inl ⟨hw, fun w' hw' => okVal_spec (hv w' hw')⟩) hS (ih n _ _ _ (inv.set (by simpa using hr)) hS hB' hne' hlast' hK)
      · rw [if_neg hw] at h
        exact wpAnyX_first hi hiL hL (Region.noSelect_spec hsel) (hQ' undef) _ _ _ _ inv (Region.free_spec hi hf) (by simpa using hr) (.inr ⟨by simpa using hw, rfl⟩) hS (ih n _ _ _ (inv.set (by simpa using hr)) hS hB' hne' hlast' h)
    | false =>
      simp only [permB, Bool.and_eq_true, decide_eq_true_eq] at hB
      obtain ⟨⟨hlt, hr⟩, hB'⟩ := hB
      have hi : ops[i]? = some ops[i] := Array.getElem?_eq_getElem hlt
      have hd : ops.toList.getD i default = ops[i] := by simp [List.getD, hlt]
      refine ⟨fun h0 => absurd (hr ▸ h0) (by simp), fun j hj => ?_⟩
      have hji : j = i := by rw [hr] at hj; simpa using hj
      subst hji
      have inv' := inv.set hj
      unfold wpOp
      simp only [hi]
      cases rest with
      | nil =>
        have hjL : j = L := by
          rcases hlast with h | h
          · cases h
          · exact h
        have hB0 : Region.ready .any ops (listed.setIfInBounds j true) = [] := by simpa [permB] using hB'
        simp only [permOps, List.map_cons, List.map_nil, hd, wpPerm] at h
        by_cases hw : Region.wanted ops[j] (yielded ops a.tmps) = true
        · rw [if_pos hw] at h ⊢
          exact .inl (Oper.wp_mono (fun a' w' h' => ⟨fun hn => absurd hjL hn, hB0, h'⟩) h)
        · rw [if_neg hw] at h ⊢
          exact ⟨fun hn => absurd hjL hn, hB0, h⟩
      | cons q rest =>
        simp only [permOps, List.map_cons, hd, wpPerm] at h
        by_cases hw : Region.wanted ops[j] (yielded ops a.tmps) = true
        · rw [if_pos hw] at h ⊢
          exact .inl (Oper.wp_mono (fun a' w' h' => ⟨fun _ => h'.1, ih n _ _ _ inv' h'.1 hB' hne' hlast' (by simpa [permOps] using h'.2)⟩) h)
        · rw [if_neg hw] at h ⊢
          exact ⟨fun _ => hS, ih n _ _ _ inv' hS hB' hne' hlast' (by simpa [permOps] using h)⟩

/-- The beginning. -/
theorem wp_region_perm {id : Nat} {a : Act} {w : World} {l : List Oper} (S : World → Prop) (order : List (Nat × Bool)) (hm : P.follows .mixedOrders = true) (hB : permOK l.toArray order = true)
    (hQ : ∀ c (d : Nat) v a w, Q (.panic c) (Act.put a (some d) v) w → Q (.panic c) a w) (hS : S w.drew)
    (h : wpPerm P l.toArray Q S (permOps l order) a w.drew) : (Code.region id l.toArray true).wp P Q a w := by
  simp only [permOK, Bool.and_eq_true, decide_eq_true_eq] at hB
  obtain ⟨⟨⟨hsel, hlen⟩, hp⟩, hl, hall⟩ := hB
  refine wp_region_any hm (wpAny_of_X (S := S) (L := lastOf order l.toArray.size) _ _ _ _ ?_)
  have hlen' : l.toArray.size = order.length := hlen.symm
  rw [show wpAnyX P l.toArray Q S (lastOf order l.toArray.size) l.toArray.size = wpAnyX P l.toArray Q S (lastOf order l.toArray.size) order.length from by rw [← hlen']]
  refine wpPerm_any hl hsel hQ order l.toArray.size _ a _ Closed.none hS hp (fun p hp' ht => ?_) (.inr rfl) (by simpa using h)
  have := List.all_eq_true.1 hall p hp'
  simpa [ht] using this

theorem wpPerm_nil {a : Act} {w : World} (h : Q .normal a w) : wpPerm P ops Q S [] a w := h
theorem wpPerm_F {a : Act} {w : World} {o : Oper} {rest : List (Bool × Oper)}
    (h : ∀ K : Act → World → Prop, (∀ a w, wpPerm P ops Q S rest a w → K a w) →
      if Region.wanted o (yielded ops a.tmps) then ∃ v, (∀ w', S w' → okVal w' v ((execOp a.eval o).run P w')) ∧ K (a.put o.dst v) w else K (a.put o.dst undef) w) :
    wpPerm P ops Q S ((true, o) :: rest) a w := h _ (fun _ _ h => h)
theorem wpPerm_E {a : Act} {w : World} {o : Oper} {q : Bool × Oper} {rest : List (Bool × Oper)} (hg : o.guard = none)
    (h : ∀ K : Act → World → Prop, (∀ a w, (S w ∧ wpPerm P ops Q S (q :: rest) a w) → K a w) → o.wp P a w K Q) :
    wpPerm P ops Q S ((false, o) :: q :: rest) a w := by
  unfold wpPerm
  rw [if_pos (by simp [Region.wanted, hg])]
  exact h _ (fun _ _ h => h)
theorem wpPerm_L {a : Act} {w : World} {o : Oper} (hg : o.guard = none)
    (h : ∀ K : Act → World → Prop, (∀ a w, Q .normal a w → K a w) → o.wp P a w K Q) :
    wpPerm P ops Q S [(false, o)] a w := by
  unfold wpPerm
  rw [if_pos (by simp [Region.wanted, hg])]
  exact h _ (fun _ _ h => h)
/-- A floater by a law of its own. -/
theorem wpPerm_F1 {a : Act} {w : World} {o : Oper} {rest : List (Bool × Oper)} (hg : o.guard = none) (v : Value) (hv : ∀ w', S w' → okVal w' v ((execOp a.eval o).run P w'))
    (h : wpPerm P ops Q S rest (a.put o.dst v) w) : wpPerm P ops Q S ((true, o) :: rest) a w := by
  unfold wpPerm
  rw [if_pos (by simp [Region.wanted, hg])]
  exact ⟨v, hv, h⟩
/-- The load of a whole array, whatever its cells. -/
theorem okVal_load {a : Act} {o : Oper} (ty : TypeId) (x : Operand) (ho : o.op = .load ty x)
    (b off : Nat) (hx : a.eval x = .pointer (some ⟨b, off, none⟩)) (cs : List Value) (d : TypeDesc) (hS : ∀ w, S w → w.rangeAt b off cs)
    (hu : P.underlying ty = some d) (hd : d.isRow = true) (hi : (P.info? ty).map (·.size) = some cs.length) : ∀ w', S w' → okVal w' (.agg cs.toArray) ((execOp a.eval o).run P w') := fun w' hw' => by
  unfold execOp
  simp only [ho, hx, Instr.loadAt, Instr.sureAddr, Sem.run_bind, Sem.run_pure, Result.andThen_ok, run_loadVar_mid w' b off ty cs d (hS w' hw') hu hd hi]
  exact ⟨rfl, rfl⟩
/-- An effect that is guarded: its guard is decided. -/
theorem wpPerm_G {a : Act} {w : World} {o : Oper} {q : Bool × Oper} {rest : List (Bool × Oper)}
    (h : ∀ K K' : Act → World → Prop, (∀ a w, (S w ∧ wpPerm P ops Q S (q :: rest) a w) → K a w) → (∀ a w, wpPerm P ops Q S (q :: rest) a w → K' a w) →
      if Region.wanted o (yielded ops a.tmps) then o.wp P a w K Q else K' (a.put o.dst undef) w) :
    wpPerm P ops Q S ((false, o) :: q :: rest) a w := by
  unfold wpPerm
  exact h _ _ (fun _ _ h => h) (fun _ _ h => h)
end

/-- The worlds that meet S, as one thing to speak of. -/
structure InS (S : World → Prop) : Type where
  w : World
  h : S w

theorem wp_region_in {P : Program} {Q : Exit → Act → World → Prop} {id : Nat} {a : Act} {w : World} {l : List Oper} (S : World → Prop) (order : List (Nat × Bool)) (hm : P.follows .mixedOrders = true) (hB : permOK l.toArray order = true)
    (hQ : ∀ c (d : Nat) v a w, Q (.panic c) (Act.put a (some d) v) w → Q (.panic c) a w) (hS : S w.drew)
    (h : Nonempty (InS S) → wpPerm P l.toArray Q (fun w' => ∃ x : InS S, w' = x.w) (permOps l order) a w.drew) : (Code.region id l.toArray true).wp P Q a w :=
  wp_region_perm _ order hm hB hQ ⟨⟨_, hS⟩, rfl⟩ (h ⟨⟨_, hS⟩⟩)

/-- append onto a row of one's own, at an operation; and where the new row lies. -/
theorem wp_append_at {P : Program} {w : World} {o : Oper} {a : Act} {K : Act → World → Prop} {Q : Exit → Act → World → Prop} (s x : Operand) (t : TypeId)
    (ho : o.op = .call { callee := .builtin .append, args := #[s, x], argTypes := #[t, t] })
    (base : Nat) (e : TypeId) (i : TypeInfo) (z : Value) (size bytes : Nat) (ht : P.underlying t = some (.slice e)) (hi : P.info? e = some i) (hz : i.zero = some z)
    (hsize : i.size = size) (hby : i.bytes = bytes) (hzs : z.cells.size = size) (hsz : 0 < size)
    (v : Value) (n : Nat) (xs : List Value) (hs : a.eval s = v) (hown : w.ownsRow base e size v n xs)
    (ad : Addr) (m c : Nat) (news : List Value) (hx : a.eval x = .slice (some ad) m c) (hl : news.length = m * size) (hnews : ∀ j u, news[j]? = some u → w.cell? (ad.add j) = some u) (h1 : ∀ u ∈ news, u.oneCell' = true)
    (h63 : n + m ≤ maxLen) (hbytes : (n + m) * bytes ≤ 140737488355328) (hbase : base ≤ w.heap.size)
    (h : ∀ v' w', w'.ownsRow base e size v' (n + m) (xs ++ news) → w.grownBy w' v.ownBlock → (v'.ownBlock = v.ownBlock ∨ v'.ownBlock = some w.heap.size) → K (a.put o.dst v') w') :
    o.wp P a w K Q := by
  obtain ⟨v', w', hr, h2, h3, _, h5⟩ := run_append_own_at (P := P) w base t o.type e i z size bytes ht hi hz hsize hby hzs hsz v n xs hown ad m c news hl hnews h1 h63 hbytes hbase
  unfold Oper.wp execOp
  simp only [ho, resolve, invoke, builtin, Sem.run_bind, Sem.run_pure, Result.andThen_ok, List.map_toArray, List.map_cons, List.map_nil, hs, hx, hr]
  exact h v' w' h2 h3 h5

/-- The worlds that are as W was below its heap's size. -/
abbrev BelowW (W : World) : World → Prop := Below W.heap.size W
theorem inB_cell {W : World} (x : InS (BelowW W)) {b o : Nat} (h : b < W.heap.size) : x.w.cell? ⟨b, o, none⟩ = W.cell? ⟨b, o, none⟩ := x.h.cell (p := ⟨b, o, none⟩) h
theorem inB_frozen {W : World} (x : InS (BelowW W)) {b o : Nat} (h : b < W.heap.size) : x.w.frozen? ⟨b, o, none⟩ = W.frozen? ⟨b, o, none⟩ := x.h.frozen (p := ⟨b, o, none⟩) h
theorem inB_drew (W : World) : BelowW W W.drew := (Below.refl _ _).drew
theorem inB_step {W w0 w1 : World} (h : BelowW W w0) (hb : Below w0.heap.size w0 w1) : ∃ x : InS (BelowW W), w1 = x.w := ⟨⟨w1, h.trans (hb.mono h.size)⟩, rfl⟩
theorem inB_more {W w0 : World} (h : BelowW W w0) : ∃ x : InS (BelowW W), w0 = x.w := ⟨⟨w0, h⟩, rfl⟩

end Go.Proofs.Ytdjndeleafhglaa
namespace Go.Proofs.Ytdjndeleafhglaa
open Go.RowKit

/-- Bytes as cells. -/
def bytesV (l : List UInt8) : List Value := l.map fun b => .int .u8 (b.toNat : Int)
theorem bytesV_length (l : List UInt8) : (bytesV l).length = l.length := by simp [bytesV]
theorem bytesV_one (l : List UInt8) : ∀ v ∈ bytesV l, v.oneCell' = true := by
  intro v hv
  simp only [bytesV, List.mem_map] at hv
  obtain ⟨b, _, rfl⟩ := hv
  rfl
theorem bytesV_inj {l m : List UInt8} (h : bytesV l = bytesV m) : l = m := by
  unfold bytesV at h
  induction l generalizing m with
  | nil => cases m with
    | nil => rfl
    | cons b m => simp at h
  | cons a l ih => cases m with
    | nil => simp at h
    | cons b m =>
      simp only [List.map_cons, List.cons.injEq, Value.int.injEq, true_and] at h
      obtain ⟨h1, h2⟩ := h
      have : a.toNat = b.toNat := by omega
      rw [ih h2, UInt8.toNat_inj.1 this]

/-- A disk in plain words. -/
structure DS where
  n : Nat
  kept : Nat → List UInt8
  pend : List (Nat × List UInt8)
  hist : List (Nat × List UInt8)
  fuse : Int
  calls : Nat
  down : Bool

def pendCells (l : List (Nat × List UInt8)) : List Value := l.flatMap fun p => .int .i64 (p.1 : Int) :: bytesV p.2
def histCells (l : List (Nat × List UInt8 × Nat)) : List Value := l.flatMap fun p => [.int .i64 (p.1 : Int), .slice (some ⟨p.2.2, 0, none⟩) 512 512]

/-- A disk with its parts named: its header in block d, what is kept in block bk, the rows of what is pending and of all that came to be kept. S: the blocks that are its own to write. -/
structure DiskP (w : World) (d : Nat) (D : DS) (S : Nat → Prop) (bk : Nat) (pv av : Value) (H : List (Nat × List UInt8 × Nat)) : Prop where
  hdr : w.heap[d]? = some (.cells #[.slice (some ⟨bk, 0, none⟩) D.n D.n, pv, av, .int .i64 D.fuse, .int .i64 (D.calls : Int), .bool D.down] 171 (0, 0))
  blk : ∃ C : Array Value, w.heap[bk]? = some (.cells C 175 (0, 0)) ∧ C.size = D.n * 512
  kept : ∀ p, p < D.n → w.rangeAt bk (p * 512) (bytesV (D.kept p))
  klen : ∀ p, p < D.n → (D.kept p).length = 512
  pend : w.ownsRow 0 177 513 pv D.pend.length (pendCells D.pend)
  plen : ∀ p ∈ D.pend, p.1 < D.n ∧ p.2.length = 512
  hist : w.ownsRow 0 51 2 av D.hist.length (histCells H)
  hsay : D.hist = H.map fun h => (h.1, h.2.1)
  hblk : ∀ h ∈ H, w.heap[h.2.2]? = some (.cells (bytesV h.2.1).toArray 175 (0, 0)) ∧ h.2.2 ≠ bk ∧ h.2.1.length = 512
  small : D.n ≤ 1024 ∧ D.pend.length + D.hist.length ≤ 1000000 ∧ D.calls ≤ 1000000000 ∧ -1 ≤ D.fuse ∧ D.fuse ≤ 9223372036854775807
  ownS : S d ∧ S bk ∧ (∀ k, pv.ownBlock = some k → S k) ∧ (∀ k, av.ownBlock = some k → S k)
  ltS : ∀ k, S k → k < w.heap.size

def DiskAt (w : World) (d : Nat) (D : DS) (S : Nat → Prop) : Prop := ∃ bk pv av H, DiskP w d D S bk pv av H

/-- Nothing but what S names has turned, of what was there. -/
structure Frame (S : Nat → Prop) (w w' : World) : Prop where
  os : w'.os = w.os
  tape : w'.tape = w.tape
  output : w'.output = w.output
  size : w.heap.size ≤ w'.heap.size
  block : ∀ k, k < w.heap.size → ¬ S k → w'.heap[k]? = w.heap[k]?

theorem Frame.refl (S : Nat → Prop) (w : World) : Frame S w w := ⟨rfl, rfl, rfl, Nat.le_refl _, fun _ _ _ => rfl⟩
theorem Frame.of_below {S : Nat → Prop} {w w' : World} (h : Below w.heap.size w w') : Frame S w w' := ⟨h.os, h.tape, h.output, h.size, fun k hk _ => h.block k hk⟩
/-- A later step may write what the earlier step made. -/
theorem Frame.trans {S S' : Nat → Prop} {a b c : World} (h : Frame S a b) (k : Frame S' b c) (hS : ∀ j, S' j → S j ∨ a.heap.size ≤ j) : Frame S a c :=
  ⟨k.os.trans h.os, k.tape.trans h.tape, k.output.trans h.output, Nat.le_trans h.size k.size, fun j hj hn => by
    rw [k.block j (Nat.lt_of_lt_of_le hj h.size) (fun hs => by rcases hS j hs with h1 | h1 <;> first | exact hn h1 | omega), h.block j hj hn]⟩
theorem Frame.below {S : Nat → Prop} {w w' : World} {B : Nat} (h : Frame S w w') (hS : ∀ k, S k → B ≤ k) (hB : B ≤ w.heap.size) : Below B w w' :=
  ⟨h.os, h.tape, h.output, h.size, fun k hk => h.block k (by omega) (fun hs => by have := hS k hs; omega)⟩
theorem Frame.drew {S : Nat → Prop} {w w' : World} (h : Frame S w w') : Frame S w w'.drew := ⟨h.os, h.tape, h.output, h.size, h.block⟩
theorem Frame.alloc {S : Nat → Prop} {w w' : World} (h : Frame S w w') (o : Obj) : Frame S w (w'.alloc o) :=
  ⟨h.os, h.tape, h.output, by have := h.size; simp; omega, fun k hk hn => by rw [Below.heap_alloc _ _ _ (Nat.lt_of_lt_of_le hk h.size)]; exact h.block k hk hn⟩
theorem Frame.setCell {S : Nat → Prop} {w w' : World} (h : Frame S w w') {p : Addr} (hp : S p.block ∨ w.heap.size ≤ p.block) (v : Value) : Frame S w (w'.setCell p v) :=
  ⟨h.os, h.tape, h.output, by have := h.size; simpa [World.setCell] using this, fun k hk hn => by
    rw [Below.heap_setCell _ _ _ _ (fun e => by subst e; rcases hp with hp | hp <;> first | exact hn hp | omega)]; exact h.block k hk hn⟩

theorem Frame.grown {S : Nat → Prop} {w w' w'' : World} {row : Option Nat} (h : Frame S w w') (hg : w'.grownBy w'' row) (hr : ∀ k, row = some k → S k ∨ w.heap.size ≤ k) : Frame S w w'' :=
  ⟨hg.os.trans h.os, hg.tape.trans h.tape, hg.output.trans h.output, Nat.le_trans h.size hg.size, fun k hk hn => by
    rw [hg.block k (Nat.lt_of_lt_of_le hk h.size) (fun e => by rcases hr k e.symm with h1 | h1 <;> first | exact hn h1 | omega)]; exact h.block k hk hn⟩

/-- What a disk's parts lie in is as it was: it is that disk still. -/
theorem DiskP.keep {w w' : World} {d : Nat} {D : DS} {S : Nat → Prop} {bk : Nat} {pv av : Value} {H : List (Nat × List UInt8 × Nat)} (h : DiskP w d D S bk pv av H)
    (hz : w.heap.size ≤ w'.heap.size) (hb : ∀ k, k < w.heap.size → w'.heap[k]? = w.heap[k]?) : DiskP w' d D S bk pv av H := by
  have lt : ∀ {k o}, w.heap[k]? = some o → k < w.heap.size := fun {k o} hk => (Array.getElem?_eq_some_iff.1 hk).1
  obtain ⟨C, hC, hCs⟩ := h.blk
  refine ⟨by rw [hb _ (lt h.hdr)]; exact h.hdr, ⟨C, by rw [hb _ (lt hC)]; exact hC, hCs⟩, fun p hp j v hv => ?_, h.klen, ?_, h.plen, ?_, h.hsay, fun x hx => ?_, h.small, h.ownS, fun k hk => Nat.lt_of_lt_of_le (h.ltS k hk) hz⟩
  · exact (World.cell?_of_block (w := w) (hb bk (lt hC))).trans (h.kept p hp j v hv)
  · refine ⟨h.pend.1, ?_⟩
    rcases h.pend.2 with hn | ⟨g, cap, cur, hv, hb0, hg, rest⟩
    · exact .inl hn
    · exact .inr ⟨g, cap, cur, hv, hb0, by rw [hb _ (lt hg)]; exact hg, rest⟩
  · refine ⟨h.hist.1, ?_⟩
    rcases h.hist.2 with hn | ⟨g, cap, cur, hv, hb0, hg, rest⟩
    · exact .inl hn
    · exact .inr ⟨g, cap, cur, hv, hb0, by rw [hb _ (lt hg)]; exact hg, rest⟩
  · obtain ⟨h1, h2, h3⟩ := h.hblk x hx
    exact ⟨by rw [hb _ (lt h1)]; exact h1, h2, h3⟩
theorem DiskP.below {w w' : World} {d : Nat} {D : DS} {S : Nat → Prop} {bk : Nat} {pv av : Value} {H : List (Nat × List UInt8 × Nat)} (h : DiskP w d D S bk pv av H) (hb : Below w.heap.size w w') : DiskP w' d D S bk pv av H :=
  h.keep hb.size hb.block
theorem DiskAt.below {w w' : World} {d : Nat} {D : DS} {S : Nat → Prop} (h : DiskAt w d D S) (hb : Below w.heap.size w w') : DiskAt w' d D S :=
  let ⟨bk, pv, av, H, hp⟩ := h
  ⟨bk, pv, av, H, hp.below hb⟩

/-- The header's cells. -/
theorem DiskP.cells {w : World} {d : Nat} {D : DS} {S : Nat → Prop} {bk : Nat} {pv av : Value} {H : List (Nat × List UInt8 × Nat)} (h : DiskP w d D S bk pv av H) :
    w.cell? ⟨d, 0, none⟩ = some (.slice (some ⟨bk, 0, none⟩) D.n D.n) ∧ w.cell? ⟨d, 1, none⟩ = some pv ∧ w.cell? ⟨d, 2, none⟩ = some av ∧ w.cell? ⟨d, 3, none⟩ = some (.int .i64 D.fuse) ∧
    w.cell? ⟨d, 4, none⟩ = some (.int .i64 (D.calls : Int)) ∧ w.cell? ⟨d, 5, none⟩ = some (.bool D.down) ∧ ∀ i, w.frozen? ⟨d, i, none⟩ = false := by
  refine ⟨?_, ?_, ?_, ?_, ?_, ?_, fun i => ?_⟩
  all_goals first
    | (rw [cell_of_row w d _ _ _ _ h.hdr]; rfl)
    | (simp [World.frozen?, h.hdr])

theorem blk_set {w : World} {g : Nat} {cs : Array Value} {t : TypeId} {fr : Nat × Nat} (h : w.heap[g]? = some (.cells cs t fr)) (i : Nat) (v : Value) :
    (w.setCell ⟨g, i, none⟩ v).heap[g]? = some (.cells (cs.setIfInBounds i v) t fr) := by
  simp [World.setCell, Array.getElem?_modify, h]
theorem blk_ne {w : World} {g g' : Nat} {cs cs' : Array Value} {t t' : TypeId} {fr fr' : Nat × Nat} (h : w.heap[g]? = some (.cells cs t fr)) (h' : w.heap[g']? = some (.cells cs' t' fr')) (hne : t ≠ t') : g ≠ g' := by
  rintro rfl
  rw [h] at h'
  injection h' with h'
  injection h' with _ ht
  exact hne ht
theorem blk_lt {w : World} {g : Nat} {o : Obj} (h : w.heap[g]? = some o) : g < w.heap.size := (Array.getElem?_eq_some_iff.1 h).1

/-- An owned row whose own block is as it was. -/
theorem own_same {w w' : World} {base : Nat} {e : TypeId} {size : Nat} {v : Value} {n : Nat} {xs : List Value} (h : w.ownsRow base e size v n xs)
    (hb : ∀ g cur, v.ownBlock = some g → w.heap[g]? = some (.cells cur e (0, 0)) → w'.heap[g]? = w.heap[g]?) : w'.ownsRow base e size v n xs := by
  refine ⟨h.1, ?_⟩
  rcases h.2 with hn | ⟨g, cap, cur, hv, hb0, hg, rest⟩
  · exact .inl hn
  · refine .inr ⟨g, cap, cur, hv, hb0, ?_, rest⟩
    rw [hb g cur (by rw [hv]; rfl) hg]
    exact hg

/-- The header's numbers have turned, and nothing else. -/
theorem DiskP.turn {w w' : World} {d : Nat} {D D' : DS} {S : Nat → Prop} {bk : Nat} {pv av : Value} {H : List (Nat × List UInt8 × Nat)} (h : DiskP w d D S bk pv av H)
    (hn : D'.n = D.n) (hk : D'.kept = D.kept) (hp : D'.pend = D.pend) (hh : D'.hist = D.hist) (hsm : D'.calls ≤ 1000000000 ∧ -1 ≤ D'.fuse ∧ D'.fuse ≤ 9223372036854775807)
    (hhdr : w'.heap[d]? = some (.cells #[.slice (some ⟨bk, 0, none⟩) D'.n D'.n, pv, av, .int .i64 D'.fuse, .int .i64 (D'.calls : Int), .bool D'.down] 171 (0, 0)))
    (hb : ∀ k, k ≠ d → w'.heap[k]? = w.heap[k]?) (hz : w'.heap.size = w.heap.size) : DiskP w' d D' S bk pv av H := by
  obtain ⟨C, hC, hCs⟩ := h.blk
  have hbd : bk ≠ d := blk_ne hC h.hdr (by decide)
  refine ⟨hhdr, ⟨C, by rw [hb _ hbd]; exact hC, by rw [hn]; exact hCs⟩, fun p hp' j v hv => ?_, fun p hp' => ?_, ?_, fun p hp' => ?_, ?_, by rw [hh]; exact h.hsay, fun x hx => ?_, ?_, h.ownS, fun k hk => by rw [hz]; exact h.ltS k hk⟩
  · rw [hk] at hv
    exact (World.cell?_of_block (w := w) (hb bk hbd)).trans (h.kept p (by omega) j v hv)
  · rw [hk]; exact h.klen p (by omega)
  · rw [hp]
    exact own_same h.pend fun g cur _ hg => hb g (blk_ne hg h.hdr (by decide))
  · rw [hp] at hp'; rw [hn]; exact h.plen p hp'
  · rw [hh]
    exact own_same h.hist fun g cur _ hg => hb g (blk_ne hg h.hdr (by decide))
  · obtain ⟨h1, h2, h3⟩ := h.hblk x hx
    exact ⟨by rw [hb _ (blk_ne h1 h.hdr (by decide))]; exact h1, h2, h3⟩
  · obtain ⟨s1, s2, s3, s4, s5⟩ := h.small
    obtain ⟨t1, t2, t3⟩ := hsm
    exact ⟨by omega, by rw [hp, hh]; omega, t1, t2, t3⟩

theorem sets_heap (w : World) (b : Nat) (vs : List Value) : ∀ (o k : Nat), k ≠ b → (w.setCells b o vs).heap[k]? = w.heap[k]? := by
  induction vs generalizing w with
  | nil => intro o k _; rfl
  | cons v r ih => intro o k hk; rw [World.setCells, ih _ _ _ hk, Below.heap_setCell _ _ _ _ (by simpa using hk)]
theorem sets_size (w : World) (b : Nat) (vs : List Value) : ∀ o, (w.setCells b o vs).heap.size = w.heap.size := by
  induction vs generalizing w with
  | nil => intro o; rfl
  | cons v r ih => intro o; rw [World.setCells, ih]; simp [World.setCell]
theorem sets_blk {b : Nat} {t : TypeId} {fr : Nat × Nat} (vs : List Value) : ∀ (o : Nat) (w : World) (C : Array Value), w.heap[b]? = some (.cells C t fr) → ∃ C', (w.setCells b o vs).heap[b]? = some (.cells C' t fr) ∧ C'.size = C.size := by
  induction vs with
  | nil => intro o w C h; exact ⟨C, h, rfl⟩
  | cons v r ih =>
    intro o w C h
    obtain ⟨C', h1, h2⟩ := ih (o + 1) _ _ (blk_set h o v)
    exact ⟨C', h1, by simpa using h2⟩
theorem sets_frame {S : Nat → Prop} {w w' : World} (h : Frame S w w') {b : Nat} (hb : S b ∨ w.heap.size ≤ b) (o : Nat) (vs : List Value) : Frame S w (w'.setCells b o vs) := by
  induction vs generalizing o w' with
  | nil => exact h
  | cons v r ih => rw [World.setCells]; exact ih (h.setCell hb v) _
theorem there_of {w : World} {b : Nat} {C : Array Value} {t : TypeId} (h : w.heap[b]? = some (.cells C t (0, 0))) {o n : Nat} (ho : o + n ≤ C.size) : w.there b o n := fun j hj =>
  ⟨by rw [cell_of_row _ _ _ _ _ _ h, Array.getElem?_eq_getElem (by omega)]; rfl, by simp [World.frozen?, h]⟩

/-- Bytes are put at a place of what is kept. -/
theorem DiskP.put {w : World} {d : Nat} {D : DS} {S : Nat → Prop} {bk : Nat} {pv av : Value} {H : List (Nat × List UInt8 × Nat)} (h : DiskP w d D S bk pv av H) (p : Nat) (b : List UInt8) (hp : p < D.n) (hb : b.length = 512) :
    DiskP (w.setCells bk (p * 512) (bytesV b)) d { D with kept := fun q => if q = p then b else D.kept q } S bk pv av H := by
  obtain ⟨C, hC, hCs⟩ := h.blk
  have hmul : (p + 1) * 512 ≤ D.n * 512 := Nat.mul_le_mul_right _ hp
  have hth : w.there bk (p * 512) (bytesV b).length := there_of hC (by rw [bytesV_length, hb, hCs]; omega)
  obtain ⟨C', hC', hCs'⟩ := sets_blk (bytesV b) (p * 512) w C hC
  have hne : ∀ {k : Nat} {o : Obj}, w.heap[k]? = some o → k ≠ bk → (w.setCells bk (p * 512) (bytesV b)).heap[k]? = some o := fun {k o} hk hkb => by rw [sets_heap _ _ _ _ _ hkb]; exact hk
  refine ⟨hne h.hdr (blk_ne h.hdr hC (by decide)), ⟨C', hC', by rw [hCs', hCs]⟩, fun q hq => ?_, fun q hq => ?_, ?_, h.plen, ?_, h.hsay, fun x hx => ?_, h.small, h.ownS, fun k hk => by rw [sets_size]; exact h.ltS k hk⟩
  · by_cases e : q = p
    · subst e
      simp only [if_true]
      exact World.rangeAt_setCells_same _ _ _ _ hth
    · simp only [if_neg e]
      refine World.rangeAt_setCells_apart (h.kept q hq) _ _ _ (.inr ?_)
      rw [bytesV_length, bytesV_length, hb, h.klen q hq]
      omega
  · by_cases e : q = p
    · simp only [if_pos e]; exact hb
    · simp only [if_neg e]; exact h.klen q hq
  · exact own_same h.pend fun g cur _ hg => sets_heap _ _ _ _ _ (blk_ne hg hC (by decide))
  · exact own_same h.hist fun g cur _ hg => sets_heap _ _ _ _ _ (blk_ne hg hC (by decide))
  · obtain ⟨h1, h2, h3⟩ := h.hblk x hx
    exact ⟨hne h1 h2, h2, h3⟩

theorem own_ne {w : World} {base k : Nat} {e t : TypeId} {size n : Nat} {v : Value} {xs : List Value} {cs : Array Value} {fr : Nat × Nat} (h : w.ownsRow base e size v n xs) (hk : w.heap[k]? = some (.cells cs t fr)) (ht : t ≠ e) : some k ≠ v.ownBlock := by
  intro he
  rcases h.2 with ⟨hn, _⟩ | ⟨g, cap, cur, hv, _, hg, _⟩
  · rw [hn] at he; cases he
  · rw [hv] at he
    have : k = g := by simpa [Value.ownBlock] using he
    subst this
    exact blk_ne hk hg ht rfl

theorem own_succ {W : World} {base : Nat} {e : TypeId} {size : Nat} {v : Value} {k : Nat} {xs : List Value} (h : W.ownsRow base e size v (k + 1) xs) : ∃ g cap, v = .slice (some ⟨g, 0, none⟩) (k + 1) cap := by
  rcases h.2 with ⟨_, h0⟩ | ⟨g, cap, _, rfl, _⟩
  · omega
  · exact ⟨g, cap, rfl⟩

/-- One more thing came to be kept: the row of all has grown by it. -/
theorem DiskP.told {w w' : World} {d : Nat} {D : DS} {S : Nat → Prop} {bk : Nat} {pv av av' : Value} {H : List (Nat × List UInt8 × Nat)} (h : DiskP w d D S bk pv av H) (p : Nat) (b : List UInt8) (hb : b.length = 512) (nb : Nat) (hnb : nb ≠ bk)
    (hsm : D.pend.length + D.hist.length + 1 ≤ 1000000)
    (hblk : w.heap[nb]? = some (.cells (bytesV b).toArray 175 (0, 0))) (hown : w'.ownsRow 0 51 2 av' (D.hist.length + 1) (histCells H ++ [.int .i64 (p : Int), .slice (some ⟨nb, 0, none⟩) 512 512]))
    (hhdr : w'.heap[d]? = some (.cells #[.slice (some ⟨bk, 0, none⟩) D.n D.n, pv, av', .int .i64 D.fuse, .int .i64 (D.calls : Int), .bool D.down] 171 (0, 0)))
    (hz : w.heap.size ≤ w'.heap.size) (hw : ∀ k, k < w.heap.size → k ≠ d → some k ≠ av.ownBlock → w'.heap[k]? = w.heap[k]?) :
    DiskP w' d { D with hist := D.hist ++ [(p, b)] } (fun k => S k ∨ some k = av'.ownBlock) bk pv av' (H ++ [(p, b, nb)]) := by
  obtain ⟨C, hC, hCs⟩ := h.blk
  have hnot : ∀ {k : Nat} {cs : Array Value} {t : TypeId}, w.heap[k]? = some (.cells cs t (0, 0)) → t ≠ 51 → some k ≠ av.ownBlock := fun {k cs t} hk ht e => by
    rcases h.hist.2 with ⟨hn, _⟩ | ⟨g, cap, cur, hv, _, hg, _⟩
    · rw [hn] at e; cases e
    · rw [hv] at e
      have : k = g := by simpa [Value.ownBlock] using e
      subst this
      exact blk_ne hk hg ht rfl
  have hkeep : ∀ {k : Nat} {cs : Array Value} {t : TypeId}, w.heap[k]? = some (.cells cs t (0, 0)) → t ≠ 51 → t ≠ 171 → w'.heap[k]? = some (Obj.cells cs t (0, 0)) := fun {k cs t} hk ht1 ht2 => by
    rw [hw k (blk_lt hk) (blk_ne hk h.hdr ht2) (hnot hk ht1)]; exact hk
  refine ⟨hhdr, ⟨C, hkeep hC (by decide) (by decide), hCs⟩, fun q hq j v hv => ?_, h.klen, ?_, h.plen, ?_, ?_, fun x hx => ?_, ?_, ⟨.inl h.ownS.1, .inl h.ownS.2.1, fun k hk => .inl (h.ownS.2.2.1 k hk), fun k hk => .inr hk.symm⟩, fun k hk => ?_⟩
  · exact (World.cell?_of_block (w := w) (hw bk (blk_lt hC) (blk_ne hC h.hdr (by decide)) (hnot hC (by decide)))).trans (h.kept q hq j v hv)
  · exact own_same h.pend fun g cur _ hg => hw g (blk_lt hg) (blk_ne hg h.hdr (by decide)) (hnot hg (by decide))
  · rw [List.length_append, histCells, List.flatMap_append]
    simpa [histCells] using hown
  · rw [List.map_append, h.hsay]; rfl
  · rcases List.mem_append.1 hx with hx | hx
    · obtain ⟨h1, h2, h3⟩ := h.hblk x hx
      exact ⟨hkeep h1 (by decide) (by decide), h2, h3⟩
    · obtain rfl : x = (p, b, nb) := by simpa using hx
      exact ⟨hkeep hblk (by decide) (by decide), hnb, hb⟩
  · obtain ⟨s1, s2, s3⟩ := h.small
    exact ⟨s1, by simp only [List.length_append, List.length_cons, List.length_nil]; omega, s3⟩
  · rcases hk with hk | hk
    · exact Nat.lt_of_lt_of_le (h.ltS k hk) hz
    · exact (hown.lt k hk.symm).2

end Go.Proofs.Ytdjndeleafhglaa
namespace Go.Proofs.Ytdjndeleafhglaa
open Go.RowKit

section
variable {w : World} {d : Nat} {D : DS} {S : Nat → Prop} {bk : Nat} {pv av : Value} {H : List (Nat × List UInt8 × Nat)}

set_option maxHeartbeats 400000 in
theorem Down_any (h : DiskP w d D S bk pv av H) :
    Calls Try.prog 75 #[.pointer (some ⟨d, 0, none⟩)] w fun e w' => e = .returned (.bool D.down) ∧ w = w' := by
  obtain ⟨c0, c1, c2, c3, c4, c5, hf⟩ := h.cells
  go_enter Try.func75, Try.ntmps75
  go_wp2
  go_ret
  exact ⟨ret_bool (by simp), rfl⟩

set_option maxHeartbeats 400000 in
theorem DSize_any (h : DiskP w d D S bk pv av H) :
    Calls Try.prog 77 #[.pointer (some ⟨d, 0, none⟩)] w fun e w' => e = .returned (.int .i64 (D.n : Int)) ∧ w = w' := by
  obtain ⟨c0, c1, c2, c3, c4, c5, hf⟩ := h.cells
  go_enter Try.func77, Try.ntmps77
  go_wp2
  go_ret
  exact ⟨rfl, rfl⟩

set_option maxHeartbeats 400000 in
theorem DCalls_any (h : DiskP w d D S bk pv av H) :
    Calls Try.prog 76 #[.pointer (some ⟨d, 0, none⟩)] w fun e w' => e = .returned (.int .i64 (D.calls : Int)) ∧ w = w' := by
  obtain ⟨c0, c1, c2, c3, c4, c5, hf⟩ := h.cells
  go_enter Try.func76, Try.ntmps76
  go_wp2
  go_ret
  exact ⟨rfl, rfl⟩

/-- May a place be asked for? 0: yes; 2: no. -/
def askedD (D : DS) (p : Int) : Int := if p < 0 ∨ (D.n : Int) ≤ p then 2 else 0

set_option maxHeartbeats 400000 in
theorem asked_any (p : Int) (h : DiskP w d D S bk pv av H) :
    Calls Try.prog 131 #[.pointer (some ⟨d, 0, none⟩), .int .i64 p] w fun e w' => e = .returned (.int .i64 (askedD D p)) ∧ w = w' := by
  obtain ⟨c0, c1, c2, c3, c4, c5, hf⟩ := h.cells
  by_cases h0 : p < 0
  · go_enter Try.func131, Try.ntmps131
    go_wp2
    go_ret
    exact ⟨ret_int (by unfold askedD; rw [if_pos (.inl h0)]), rfl⟩
  · by_cases h1 : (D.n : Int) ≤ p
    · go_enter Try.func131, Try.ntmps131
      go_wp2
      go_ret
      exact ⟨ret_int (by unfold askedD; rw [if_pos (.inr h1)]), rfl⟩
    · go_enter Try.func131, Try.ntmps131
      go_wp2
      go_ret
      exact ⟨ret_int (by unfold askedD; rw [if_neg (by omega)]), rfl⟩

/-- A call that turns: what it tells, and the disk behind it. -/
def burnD (D : DS) : Int × DS :=
  if D.fuse = 0 then (12, { D with calls := D.calls + 1, down := true })
  else if 0 < D.fuse then (0, { D with calls := D.calls + 1, fuse := D.fuse - 1 })
  else (0, { D with calls := D.calls + 1 })

theorem size_set (w : World) (a : Addr) (v : Value) : (w.setCell a v).heap.size = w.heap.size := by simp [World.setCell]

set_option maxHeartbeats 400000 in
theorem burn_any (h : DiskP w d D S bk pv av H) (hc : D.calls + 1 ≤ 1000000000) :
    Calls Try.prog 133 #[.pointer (some ⟨d, 0, none⟩)] w fun e w' => e = .returned (.int .i64 (burnD D).1) ∧ DiskP w' d (burnD D).2 S bk pv av H ∧ Frame S w w' := by
  obtain ⟨c0, c1, c2, c3, c4, c5, hf⟩ := h.cells
  have hS := h.ownS.1
  have hd := h.hdr
  obtain ⟨s1, s2, s3, s4, s5⟩ := h.small
  unfold burnD
  have far : ∀ (w1 w2 : World), (∀ k, k ≠ d → w2.heap[k]? = w1.heap[k]?) → ∀ i v, ∀ k, k ≠ d → (w2.setCell ⟨d, i, none⟩ v).heap[k]? = w1.heap[k]? := fun w1 w2 hh i v k hk => by
    rw [Below.heap_setCell _ _ _ _ (by simpa using hk)]; exact hh k hk
  have Hd := Lib.hid hd; clear hd
  have Hfar := Lib.hid far; clear far
  by_cases h0 : D.fuse = 0
  · rw [if_pos h0]
    have e0 : (D.fuse == 0) = true := by simpa using h0
    have H0 := Lib.hid h0; clear h0
    go_enter Try.func133, Try.ntmps133
    go_wp2
    go_ret
    refine ⟨rfl, h.turn rfl rfl rfl rfl ⟨hc, s4, s5⟩ ?_ (Hfar.out _ _ (Hfar.out _ _ (fun _ _ => rfl) _ _) _ _) (by simp only [size_set]), ((Frame.refl S w).setCell (.inl hS) _).setCell (.inl hS) _⟩
    exact blk_set (blk_set Hd.out _ _) _ _
  · rw [if_neg h0]
    have e0 : (D.fuse == 0) = false := by simpa using h0
    by_cases h1 : 0 < D.fuse
    · rw [if_pos h1]
      have H0 := Lib.hid h0; clear h0
      go_enter Try.func133, Try.ntmps133
      go_wp2
      go_ret
      refine ⟨rfl, h.turn rfl rfl rfl rfl ⟨hc, by simp only; omega, by simp only; omega⟩ ?_ (Hfar.out _ _ (Hfar.out _ _ (fun _ _ => rfl) _ _) _ _) (by simp only [size_set]), ((Frame.refl S w).setCell (.inl hS) _).setCell (.inl hS) _⟩
      exact blk_set (blk_set Hd.out _ _) _ _
    · rw [if_neg h1]
      have H0 := Lib.hid h0; clear h0
      go_enter Try.func133, Try.ntmps133
      go_wp2
      go_ret
      refine ⟨rfl, h.turn rfl rfl rfl rfl ⟨hc, s4, s5⟩ ?_ (Hfar.out _ _ (fun _ _ => rfl) _ _) (by simp only [size_set]), (Frame.refl S w).setCell (.inl hS) _⟩
      exact blk_set Hd.out _ _

/-- A fuse is laid. -/
def armD (D : DS) (f : Int) : DS := { D with fuse := max f (-1) }

set_option maxHeartbeats 400000 in
theorem Arm_any (f : Int) (hD : DiskP w d D S bk pv av H) (hf1 : f ≤ 9223372036854775807) :
    Calls Try.prog 82 #[.pointer (some ⟨d, 0, none⟩), .int .i64 f] w fun e w' => e = .returned (.tuple #[]) ∧ DiskP w' d (armD D f) S bk pv av H ∧ Frame S w w' := by
  obtain ⟨c0, c1, c2, c3, c4, c5, hf⟩ := hD.cells
  have hS := hD.ownS.1
  have Hd := Lib.hid hD.hdr
  obtain ⟨s1, s2, s3, s4, s5⟩ := hD.small
  go_enter Try.func82, Try.ntmps82
  go_wp2
  all_goals
    go_end0
    refine ⟨rfl, hD.turn rfl rfl rfl rfl ⟨s3, by unfold armD; simp only; omega, by unfold armD; simp only; omega⟩ ?_ (fun k hk => by rw [Below.heap_setCell _ _ _ _ (by simpa using hk)]) (by simp only [size_set]), (Frame.refl S w).setCell (.inl hS) _⟩
    rw [blk_set Hd.out]
    unfold armD
    first | rw [show max f (-1) = f by omega] | rw [show max f (-1) = -1 by omega]
    rfl

/-- The zero of an array of 512 bytes. -/
def blockZero : Value := .agg (Array.replicate 512 (.int .u8 0))
theorem info_block : (Try.prog.info? 175).map (fun i => (i.zero, i.size, i.bytes)) = some (some blockZero, 512, 512) := by kernel_rfl
theorem blockZero_cells : blockZero.cells = Array.replicate 512 (.int .u8 0) := rfl
theorem made_size (n : Nat) : (madeCells blockZero.cells n).size = n := size_madeCells _ _
theorem made_get (n j : Nat) (h : j < n) : (madeCells blockZero.cells n)[j]? = some (.int .u8 0) := by
  have hm : j % 512 < 512 := Nat.mod_lt _ (by omega)
  rw [blockZero_cells]
  simp [madeCells, h, getElem!_pos, hm]

def zeros : List UInt8 := List.replicate 512 0
theorem zeros_len : zeros.length = 512 := List.length_replicate
theorem zeros_get (j : Nat) (h : j < 512) : (bytesV zeros)[j]? = some (.int .u8 0) := by
  unfold bytesV zeros
  rw [List.map_replicate, List.getElem?_replicate, if_pos h]
  rfl
/-- A disk that is made. -/
def newD (n : Nat) : DS := ⟨n, fun _ => zeros, [], [], -1, 0, false⟩

set_option maxHeartbeats 400000 in
theorem New_no (n : Int) (w : World) (h : n < 1 ∨ 1024 < n) :
    Calls Try.prog 47 #[.int .i64 n] w fun e w' => e = .returned (.tuple #[.pointer none, .int .i64 2]) ∧ w = w' := by
  rcases h with h | h
  · go_enter Try.func47, Try.ntmps47
    go_wp2
    go_ret2
    exact ⟨rfl, rfl⟩
  · have h' : ¬ n < 1 := by omega
    go_enter Try.func47, Try.ntmps47
    go_wp2
    go_ret2
    exact ⟨rfl, rfl⟩

set_option maxHeartbeats 400000 in
theorem New_yes (n : Nat) (w : World) (h1 : 1 ≤ n) (h2 : n ≤ 1024) :
    Calls Try.prog 47 #[.int .i64 (n : Int)] w fun e w' => e = .returned (.tuple #[.pointer (some ⟨w.heap.size + 1, 0, none⟩), .int .i64 0]) ∧
      DiskAt w' (w.heap.size + 1) (newD n) (fun k => k = w.heap.size ∨ k = w.heap.size + 1) ∧ Below w.heap.size w w' := by
  obtain ⟨i0, hi, hiz, his, hib⟩ := info_parts info_block
  have hmk := run_make (P := Try.prog) w 168 175 i0 _ Try.underlying168 hi hiz .i64 .i64 (n : Int) (n : Int) (by omega) (by omega) (by rw [hib]; omega) (by omega)
  rw [his, Int.toNat_natCast] at hmk
  have hCs := made_size (n * 512)
  have hCg := made_get (n * 512)
  generalize madeCells blockZero.cells (n * 512) = C at hmk hCs hCg
  have HCs := Lib.hid hCs; clear hCs
  have HCg := Lib.hid hCg; clear hCg
  have hb1 : ¬ (n : Int) < 1 := by omega
  have hb2 : ¬ (1024 : Int) < n := by omega
  go_enter Try.func47, Try.ntmps47
  go_wp2
  go_ret2
  refine ⟨rfl, ⟨w.heap.size, .slice none 0 0, .slice none 0 0, [], ?_⟩, Bnew (Bbox _ _) _⟩
  have g0 : ∀ o, ((w.alloc (.cells C 175)).alloc o).heap[w.heap.size]? = some (.cells C 175 (0, 0)) := fun o => by
    rw [Below.heap_alloc _ _ _ (by simp)]; exact heap_alloc_new w _
  have g1 : ∀ o, ((w.alloc (.cells C 175)).alloc o).heap[w.heap.size + 1]? = some o := fun o => by
    have := heap_alloc_new (w.alloc (.cells C 175)) o
    simpa using this
  refine ⟨g1 _, ⟨C, g0 _, HCs.out⟩, fun p hp j v hv => ?_, fun p _ => zeros_len, World.ownsRow_nil _ _ _ _, (fun p hp => by cases hp), World.ownsRow_nil _ _ _ _, rfl, (fun x hx => by cases hx), ⟨h2, Nat.zero_le _, Nat.zero_le _, (show (-1 : Int) ≤ -1 by omega), (show (-1 : Int) ≤ 9223372036854775807 by omega)⟩,
    ⟨.inr rfl, .inl rfl, (fun k hk => by simp [Value.ownBlock] at hk), (fun k hk => by simp [Value.ownBlock] at hk)⟩, (fun k hk => by simp only [World.size_alloc]; omega)⟩
  have hj : j < 512 := by
    have := (List.getElem?_eq_some_iff.1 hv).1
    rw [bytesV_length] at this
    exact Nat.lt_of_lt_of_eq this zeros_len
  have hpn : p < n := hp
  rw [cell_of_row _ _ _ _ _ _ (g0 _), HCg.out _ (by omega), ← hv]
  exact (zeros_get j hj).symm

end
end Go.Proofs.Ytdjndeleafhglaa
namespace Go.Proofs.Ytdjndeleafhglaa
open Go.RowKit

/-- Bytes come to be kept. -/
def keepD (D : DS) (p : Nat) (b : List UInt8) : DS := { D with kept := fun q => if q = p then b else D.kept q, hist := D.hist ++ [(p, b)] }

section
variable {w : World} {d : Nat} {D : DS} {S : Nat → Prop} {bk : Nat} {pv av : Value} {H : List (Nat × List UInt8 × Nat)}

theorem info_write : (Try.prog.info? 51).map (fun i => (i.zero, i.size, i.bytes)) = some (some (.agg #[.int .i64 0, .slice none 0 0]), 2, 32) := by kernel_rfl
theorem size_block : (Try.prog.info? 175).map (·.size) = some 512 := by
  obtain ⟨i0, hi, _, his, _⟩ := info_parts info_block
  rw [hi]; simp [his]

set_option maxRecDepth 100000 in
set_option maxHeartbeats 400000 in
theorem keep_any (p : Nat) (b : List UInt8) (h : DiskP w d D S bk pv av H) (hp : p < D.n) (hb : b.length = 512) (hsm : D.pend.length + D.hist.length + 1 ≤ 1000000) :
    Calls Try.prog 132 #[.pointer (some ⟨d, 0, none⟩), .int .i64 (p : Int), .agg (bytesV b).toArray] w fun e w' => e = .returned (.tuple #[]) ∧
      ∃ S' av' H', DiskP w' d (keepD D p b) S' bk pv av' H' ∧ Frame S w w' ∧ ∀ k, S' k → S k ∨ w.heap.size ≤ k := by
  obtain ⟨c0, c1, c2, c3, c4, c5, hf⟩ := h.cells
  have hlen : (bytesV b).length = 512 := by rw [bytesV_length, hb]
  have hone := bytesV_one b
  generalize hV : bytesV b = V at hlen hone
  have HV := Lib.hid hV; clear hV
  have Hlen := Lib.hid hlen; clear hlen
  have Hone := Lib.hid hone; clear hone
  have Hb := Lib.hid hb; clear hb
  have hpn : (p : Int) < (D.n : Int) := by omega
  go_enter Try.func132, Try.ntmps132
  go_wp2
  have hdl := blk_lt h.hdr
  have hnew : (w.alloc (.cells V.toArray 175)).rangeAt w.heap.size 0 V := fun j v hv => by
    rw [Nat.zero_add, cell_of_row _ _ _ _ _ _ (heap_alloc_new w _)]; simpa using hv
  have hszV : (Try.prog.info? 175).map (·.size) = some V.length := by rw [Hlen.out]; exact size_block
  have Hnew := Lib.hid hnew; clear hnew
  have HszV := Lib.hid hszV; clear hszV
  refine wp_region_in (fun w' => w'.cell? ⟨d, 0, none⟩ = some (.slice (some ⟨bk, 0, none⟩) D.n D.n) ∧ w'.rangeAt w.heap.size 0 V) [(0, true), (1, true), (2, true), (3, true), (4, true), (5, true), (6, true), (7, false)] (by kernel_rfl) (by kernel_rfl) (fun _ _ _ _ _ h => h) ⟨by go_simp, by simpa using Hnew.out⟩ (fun hne => ?_)
  have hs0 : ∀ x : InS (fun w' => w'.cell? ⟨d, 0, none⟩ = some (.slice (some ⟨bk, 0, none⟩) D.n D.n) ∧ w'.rangeAt w.heap.size 0 V), x.w.cell? ⟨d, 0, none⟩ = some (.slice (some ⟨bk, 0, none⟩) D.n D.n) := fun x => x.h.1
  simp only [permOps, List.map_cons, List.map_nil, List.getD_cons_zero, List.getD_cons_succ]
  (iterate 5 ((with_reducible refine wpPerm_F ?_); intro K hK; go_simp; refine hK _ _ ?_; clear hK K))
  refine wpPerm_F1 rfl _ (okVal_load 175 _ rfl w.heap.size 0 rfl V _ (fun w' ⟨x, hx⟩ => by rw [hx]; exact x.h.2) Try.underlying175 rfl HszV.out) ?_
  (iterate 1 ((with_reducible refine wpPerm_F ?_); intro K hK; go_simp; refine hK _ _ ?_; clear hK K))
  (with_reducible refine wpPerm_L rfl ?_); intro K hK
  obtain ⟨C, hC, hCs⟩ := h.blk
  have hmul : (p + 1) * 512 ≤ D.n * 512 := Nat.mul_le_mul_right _ hp
  have hth : (w.alloc (.cells V.toArray 175)).drew.there bk (p * 512) V.toArray.size :=
    there_of (C := C) (t := 175) (by rw [show (w.alloc (.cells V.toArray 175)).drew.heap = (w.alloc (.cells V.toArray 175)).heap from rfl, Below.heap_alloc _ _ _ (blk_lt hC)]; exact hC) (by rw [List.size_toArray, Hlen.out, hCs]; omega)
  refine wp_store_mid 175 _ _ rfl bk (p * 512) V.toArray rfl rfl hth HszV.out (all_oneCell_toArray Hone.out) ?_
  (refine hK _ _ ?_; clear hK K)
  have h1 : DiskP (w.alloc (.cells V.toArray 175)).drew d D S bk pv av H := h.below (Bdrew (Bbox _ _))
  have h2 := h1.put p b hp Hb.out
  rw [HV.out] at h2
  have hfr : Frame S w ((w.alloc (.cells V.toArray 175)).drew.setCells bk (p * 512) V) := sets_frame (((Frame.refl S w).alloc _).drew) (.inl h.ownS.2.1) _ _
  have hnb : ((w.alloc (.cells V.toArray 175)).drew.setCells bk (p * 512) V).heap[w.heap.size]? = some (.cells V.toArray 175 (0, 0)) := by
    rw [sets_heap _ _ _ _ _ (by have := blk_lt hC; omega)]; exact heap_alloc_new w _
  have hz2 : ((w.alloc (.cells V.toArray 175)).drew.setCells bk (p * 512) V).heap.size = w.heap.size + 1 := by rw [sets_size]; simp [World.drew]
  have hbkne : w.heap.size ≠ bk := by have := blk_lt hC; omega
  generalize (w.alloc (.cells V.toArray 175)).drew.setCells bk (p * 512) V = W at h2 hfr hnb hz2 ⊢
  clear hth h1 hs0 hC hCs hmul c0 c1 c2 c3 c4 c5 hf hne
  obtain ⟨c0, c1, c2, c3, c4, c5, hf⟩ := h2.cells
  have H2 := Lib.hid h2; clear h2
  have Hnb := Lib.hid hnb; clear hnb
  have Hz := Lib.hid hz2; clear hz2
  go_wp2
  refine wp_region_in (fun w' => w'.cell? ⟨d, 2, none⟩ = some av) [(0, true), (1, true), (2, true), (3, true), (4, true), (5, true), (6, true), (7, true), (8, false), (9, false), (10, true), (11, true), (12, false)] (by kernel_rfl) (by kernel_rfl) (fun _ _ _ _ _ h => h) c2 (fun hne => ?_)
  have hs0 : ∀ x : InS (fun w' => w'.cell? ⟨d, 2, none⟩ = some av), x.w.cell? ⟨d, 2, none⟩ = some av := fun x => x.h
  obtain ⟨i1, hi1, hi1z, hi1s, hi1b⟩ := info_parts info_write
  have hdlt := blk_lt H2.out.hdr
  have hdne : some d ≠ av.ownBlock := own_ne H2.out.hist H2.out.hdr (by decide)
  have hown0 : (W.alloc (.cells #[.int .i64 (p : Int), .slice (some ⟨w.heap.size, 0, none⟩) 512 512] 51)).drew.ownsRow 0 51 2 av D.hist.length (histCells H) := World.ownsRow.drew (H2.out.hist.alloc _)
  have hfr2 := (hfr.alloc (.cells #[.int .i64 (p : Int), .slice (some ⟨w.heap.size, 0, none⟩) 512 512] 51)).drew
  have c2A : (W.alloc (.cells #[.int .i64 (p : Int), .slice (some ⟨w.heap.size, 0, none⟩) 512 512] 51)).drew.cell? ⟨d, 2, none⟩ = some av := by go_simp
  simp only [permOps, List.map_cons, List.map_nil, List.getD_cons_zero, List.getD_cons_succ]
  (repeat ((with_reducible refine wpPerm_F ?_); intro K hK; go_simp; refine hK _ _ ?_; clear hK K))
  (with_reducible refine wpPerm_E rfl ?_); intro K hK
  go_wp2_with fail
  refine ⟨⟨⟨_, c2A⟩, rfl⟩, ?_⟩
  (with_reducible refine wpPerm_E rfl ?_); intro K hK
  refine wp_append_at _ _ 45 rfl 0 51 i1 _ 2 32 Try.underlying45 hi1 hi1z hi1s hi1b rfl (by decide) _ _ _ rfl hown0 ⟨W.heap.size, 0, none⟩ 1 1 [.int .i64 (p : Int), .slice (some ⟨w.heap.size, 0, none⟩) 512 512] rfl rfl
    (World.news_of_block (heap_alloc_new W _)) (by simp [Value.oneCell']) (by unfold maxLen; omega) (by omega) (Nat.zero_le _) ?_
  intro av' W3 hown3 hgrow3 hat3
  (refine hK _ _ ?_; clear hK K)
  have c2' : W3.cell? ⟨d, 2, none⟩ = some av := hgrow3.cell c2A hdne
  have f2' : W3.frozen? ⟨d, 2, none⟩ = false := by
    rw [World.frozen?_of_block (hgrow3.block d (by simp; omega) hdne)]
    go_simp
  obtain ⟨g3, cap3, rfl⟩ := own_succ hown3
  refine ⟨⟨⟨_, c2'⟩, rfl⟩, ?_⟩
  clear c2A
  (repeat ((with_reducible refine wpPerm_F ?_); intro K hK; go_simp; refine hK _ _ ?_; clear hK K))
  (with_reducible refine wpPerm_L rfl ?_); intro K hK
  go_wp2
  go_end0
  have hne3 : ∀ k, k < W.heap.size → some k ≠ av.ownBlock → W3.heap[k]? = W.heap[k]? := fun k hk hka => by
    rw [hgrow3.block k (by simp; omega) hka]
    exact Below.heap_alloc _ _ _ hk
  have hd3 : W3.heap[d]? = some (.cells #[.slice (some ⟨bk, 0, none⟩) D.n D.n, pv, av, .int .i64 D.fuse, .int .i64 (D.calls : Int), .bool D.down] 171 (0, 0)) := by
    rw [hne3 d hdlt hdne]; exact H2.out.hdr
  have hown4 := own_same (w' := W3.setCell ⟨d, 2, none⟩ (.slice (some ⟨g3, 0, none⟩) (D.hist.length + 1) cap3)) hown3 (fun g cur _ hg => Below.heap_setCell _ _ _ _ (blk_ne hg hd3 (by decide)))
  have hS2 : ∀ k, av.ownBlock = some k → S k ∨ w.heap.size ≤ k := fun k hk => .inl (H2.out.ownS.2.2.2 k hk)
  refine ⟨rfl, _, _, _, H2.out.told p b Hb.out w.heap.size hbkne hsm (by rw [HV.out]; exact Hnb.out) hown4 (blk_set hd3 2 _) (by rw [size_set]; have := hgrow3.size; simp at this; omega) (fun k hk hkd hka => by rw [Below.heap_setCell _ _ _ _ (by simpa using hkd)]; exact hne3 k hk hka), ?_, ?_⟩
  · exact (hfr2.grown hgrow3 hS2).setCell (.inl H2.out.ownS.1) _
  · intro k hk
    rcases hk with hk | hk
    · exact .inl hk
    · rcases hat3 with he | he
      · exact hS2 k (he.symm.trans hk.symm)
      · have hk' := hk.trans he
        right
        have : k = W.heap.size + 1 := by simpa using hk'
        have := Hz.out
        omega

end
end Go.Proofs.Ytdjndeleafhglaa
namespace Go.Proofs.Ytdjndeleafhglaa
open Go.RowKit

theorem foldl_set (off : Nat) : ∀ (vs : List Value) (k : Nat) (cs : Array Value), off + k + vs.length ≤ cs.size →
    ((vs.zipIdx k).foldl (fun cs x => cs.setIfInBounds (off + x.2) x.1) cs).toList = cs.toList.take (off + k) ++ vs ++ cs.toList.drop (off + k + vs.length)
  | [], k, cs, _ => by simp
  | v :: r, k, cs, h => by
    simp only [List.length_cons] at h
    rw [List.zipIdx_cons, List.foldl_cons, foldl_set off r (k + 1) _ (by simp; omega)]
    have hm : off + k < cs.toList.length := by simp; omega
    simp only [Array.toList_setIfInBounds]
    have e1 : (cs.toList.set (off + k) v).take (off + (k + 1)) = cs.toList.take (off + k) ++ [v] := by
      rw [show off + (k + 1) = off + k + 1 by omega, List.take_set, List.take_succ_eq_append_getElem hm, List.set_append_right _ _ (by simp; omega)]
      have : off + k - (cs.toList.take (off + k)).length = 0 := by simp; omega
      rw [this]; rfl
    have e2 : (cs.toList.set (off + k) v).drop (off + (k + 1) + r.length) = cs.toList.drop (off + k + (r.length + 1)) := by
      rw [List.drop_set_of_lt (by omega)]
      congr 1; omega
    rw [e1, e2]
    simp

def waitZero : Value := .agg (#[.int .i64 0] ++ Array.replicate 512 (.int .u8 0))
theorem info_wait : (Try.prog.info? 177).map (fun i => (i.zero, i.size, i.bytes)) = some (some waitZero, 513, 520) := by kernel_rfl

theorem zero_wait (w : World) : (zeroValue 177).run Try.prog w = .ok waitZero w := by kernel_rfl
theorem wait_cells : waitZero.cells = #[.int .i64 0] ++ Array.replicate 512 (.int .u8 0) := rfl

theorem fill_one (place : Nat → Option (Nat × Nat)) (cells : Array Value) (i off size : Nat) (v : Value) (vs : List Value) (rest : List (Nat × Value)) (hp : place i = some (off, size)) (hv : v.cells = vs.toArray) (hs : vs.length = size)
    (hb : off + size ≤ cells.size) : Instr.fill place cells ((i, v) :: rest) = Instr.fill place (cells.toList.take off ++ vs ++ cells.toList.drop (off + size)).toArray rest := by
  have key := foldl_set off vs 0 cells (by omega)
  rw [Instr.fill, hp]
  dsimp only
  rw [hv]
  have hc : (vs.toArray.size ≠ size || off + vs.toArray.size > cells.size) = false := by
    simp [hs]; omega
  simp only [hc, Bool.false_eq_true, if_false]
  congr 1
  apply Array.ext'
  rw [← Array.foldl_toList, Array.toList_zipIdx]
  rw [Nat.add_zero] at key
  rw [← hs]
  exact key

theorem fill_wait (p : Int) (V : List Value) (hV : V.length = 512) : Instr.fill (#[(0, 1), (1, 512)][·]?) waitZero.cells [(0, .int .i64 p), (1, .agg V.toArray)] = some (.int .i64 p :: V).toArray := by
  have hc : waitZero.cells.toList = .int .i64 0 :: List.replicate 512 (.int .u8 0) := by rw [wait_cells]; simp only [Array.toList_append, Array.toList_replicate, List.cons_append, List.nil_append]
  have hs : waitZero.cells.size = 513 := by rw [← Array.length_toList, hc, List.length_cons, List.length_replicate]
  rw [fill_one _ _ 0 0 1 _ [.int .i64 p] _ rfl rfl rfl (by omega), hc]
  rw [fill_one _ _ 1 1 512 _ V _ rfl rfl hV (by simp only [List.take_zero, List.nil_append, List.drop_succ_cons, List.drop_zero, List.cons_append, List.size_toArray, List.length_cons, List.length_replicate]; omega)]
  simp only [List.take_zero, List.nil_append, List.drop_succ_cons, List.drop_zero, List.cons_append, List.take_succ_cons, Nat.zero_add, Nat.add_comm 1 512]
  rw [List.drop_of_length_le (by rw [List.length_replicate]; omega), List.append_nil]
  rfl

/-- Where a struct's fields stand. -/
def placesOf (fs : Array Field) : Sem (Array (Nat × Nat)) := fs.mapM fun f => do pure (f.offset, ← sizeOf f.type)
theorem places_wait : ∃ fs, Try.prog.underlying 177 = some (.struct fs) ∧ ∀ w, (placesOf fs).run Try.prog w = .ok #[(0, 1), (1, 512)] w := ⟨_, Try.underlying177, fun w => by kernel_rfl⟩

theorem run_build_wait (p : Int) (V : List Value) (hV : V.length = 512) (w : World) :
    (Instr.build 177 #[(0, .int .i64 p), (1, .agg V.toArray)]).run Try.prog w = .ok (.agg (.int .i64 p :: V).toArray) w := by
  obtain ⟨fs, hu, hpl⟩ := places_wait
  have hz := zero_wait w
  have hp := hpl w
  unfold placesOf at hp
  unfold Instr.build
  rw [Sem.run_bind, hz, Result.andThen_ok, Sem.run_bind, run_underlying hu, Result.andThen_ok]
  dsimp only
  rw [Sem.run_bind, hp, Result.andThen_ok]
  have hf := fill_wait p V hV
  rw [hf]
  rfl

end Go.Proofs.Ytdjndeleafhglaa
namespace Go.Proofs.Ytdjndeleafhglaa
open Go.RowKit

theorem okVal_build {P : Program} {S : World → Prop} {a : Act} {o : Oper} (ty : TypeId) (parts : Array (Nat × Operand)) (ho : o.op = .build ty parts) (vals : Array (Nat × Value)) (hv : (parts.map fun p => (p.1, a.eval p.2)) = vals) (v : Value)
    (hr : ∀ w, (Instr.build ty vals).run P w = .ok v w) : ∀ w', S w' → okVal w' v ((execOp a.eval o).run P w') := fun w' _ => by
  unfold execOp
  simp only [ho, hv, Sem.run_bind, Sem.run_pure, Result.andThen_ok, hr w']
  exact ⟨rfl, rfl⟩

theorem fill_single (place : Nat → Option (Nat × Nat)) (cells : Array Value) (n : Nat) (v : Value) (vs : List Value) (hp : place 0 = some (0, n)) (hv : v.cells = vs.toArray) (hs : vs.length = n) (hc : cells.size = n) :
    Instr.fill place cells [(0, v)] = some vs.toArray := by
  rw [fill_one place cells 0 0 n v vs [] hp hv hs (by omega)]
  simp only [List.take_zero, List.nil_append, Nat.zero_add]
  rw [List.drop_of_length_le (by rw [Array.length_toList]; omega), List.append_nil]
  rfl

/-- A slice literal of one thing, whatever its cells. -/
theorem wp_buildOne {P : Program} {o : Oper} {a : Act} {w : World} {K : Act → World → Prop} {Q : Exit → Act → World → Prop} (t e : TypeId) (x : Operand) (ho : o.op = .buildSlice t 1 #[(0, x)])
    (v : Value) (hx : a.eval x = v) (vs : List Value) (hv : v.cells = vs.toArray) (ie : TypeInfo) (z : Value)
    (hu : P.underlying t = some (.slice e)) (hie : P.info? e = some ie) (hz : ie.zero = some z) (n : Nat) (his : ie.size = n) (hs : vs.length = n) (hn : 0 < n) (hn2 : n ≤ 1000000)
    (h : K (a.put o.dst (.slice (some ⟨w.heap.size, 0, none⟩) 1 1)) (w.alloc (.cells vs.toArray e))) : o.wp P a w K Q := by
  subst his
  refine wp_buildSlice t e 1 _ ho vs.toArray ie z hu hie hz (by omega) (by omega) ?_ h
  have : (Array.map (fun (x : Nat × Operand) => (x.1, a.eval x.2)) #[(0, x)]).toList = [(0, v)] := by simp [hx]
  rw [this]
  exact fill_single _ _ _ v vs (by simp) hv hs (by simp)

/-- A slice of bytes: it reads so. -/
structure BytesAt (w : World) (A : Option Addr) (n : Nat) (l : List UInt8) : Prop where
  len : l.length = n
  at_ : 0 < n → ∃ g o, A = some ⟨g, o, none⟩ ∧ w.rangeAt g o (bytesV l)

theorem rangeAt_keep {w w' : World} {g o : Nat} {cs : List Value} (h : w.rangeAt g o cs) (hb : w'.heap[g]? = w.heap[g]?) : w'.rangeAt g o cs := fun j v hv => (World.cell?_of_block (w := w) hb).trans (h j v hv)
theorem rangeAt_lt {w : World} {g o : Nat} {cs : List Value} (h : w.rangeAt g o cs) (hn : 0 < cs.length) : g < w.heap.size := World.block_lt_of_cell? w _ (h 0 _ (List.getElem?_eq_getElem hn))
theorem BytesAt.below {w w' : World} {A : Option Addr} {n : Nat} {l : List UInt8} (h : BytesAt w A n l) (hb : Below w.heap.size w w') : BytesAt w' A n l :=
  ⟨h.len, fun hn => by
    obtain ⟨g, o, hA, hr⟩ := h.at_ hn
    exact ⟨g, o, hA, rangeAt_keep hr (hb.block g (rangeAt_lt hr (by rw [bytesV_length, h.len]; exact hn)))⟩⟩
theorem BytesAt.nil (w : World) : BytesAt w none 0 [] := ⟨rfl, fun h => by omega⟩

/-- What a write tells, and the disk behind it. -/
def writeD (D : DS) (p : Int) (b : List UInt8) : Int × DS :=
  if D.down = true then (12, D) else if p < 0 ∨ (D.n : Int) ≤ p then (2, D) else if b.length ≠ 512 then (4, D)
  else burnD { D with pend := D.pend ++ [(p.toNat, b)] }

theorem wait_size : waitZero.cells.size = 513 := by rw [wait_cells, Array.size_append, Array.size_replicate]; rfl
theorem info_wait2 : ∃ i, Try.prog.info? 177 = some i ∧ i.zero = some waitZero ∧ i.size = 513 ∧ i.bytes = 520 := by
  obtain ⟨i, h1, h2, h3, h4⟩ := info_parts info_wait
  exact ⟨i, h1, h2, h3, h4⟩

section
variable {w : World} {d : Nat} {D : DS} {S : Nat → Prop} {bk : Nat} {pv av : Value} {H : List (Nat × List UInt8 × Nat)}

/-- Something more is pending: its row has grown by it. -/
theorem DiskP.wait {w w' : World} {d : Nat} {D : DS} {S : Nat → Prop} {bk : Nat} {pv pv' av : Value} {H : List (Nat × List UInt8 × Nat)} (h : DiskP w d D S bk pv av H) (p : Nat) (b : List UInt8) (hp : p < D.n) (hb : b.length = 512)
    (hsm : D.pend.length + D.hist.length + 1 ≤ 1000000)
    (hown : w'.ownsRow 0 177 513 pv' (D.pend.length + 1) (pendCells D.pend ++ (.int .i64 (p : Int) :: bytesV b)))
    (hhdr : w'.heap[d]? = some (.cells #[.slice (some ⟨bk, 0, none⟩) D.n D.n, pv', av, .int .i64 D.fuse, .int .i64 (D.calls : Int), .bool D.down] 171 (0, 0)))
    (hz : w.heap.size ≤ w'.heap.size) (hw : ∀ k, k < w.heap.size → k ≠ d → some k ≠ pv.ownBlock → w'.heap[k]? = w.heap[k]?) :
    DiskP w' d { D with pend := D.pend ++ [(p, b)] } (fun k => S k ∨ some k = pv'.ownBlock) bk pv' av H := by
  obtain ⟨C, hC, hCs⟩ := h.blk
  have hkeep : ∀ {k : Nat} {cs : Array Value} {t : TypeId}, w.heap[k]? = some (.cells cs t (0, 0)) → t ≠ 177 → t ≠ 171 → w'.heap[k]? = w.heap[k]? := fun {k cs t} hk ht1 ht2 =>
    hw k (blk_lt hk) (blk_ne hk h.hdr ht2) (own_ne h.pend hk ht1)
  refine ⟨hhdr, ⟨C, (hkeep hC (by decide) (by decide)).trans hC, hCs⟩, fun q hq => rangeAt_keep (h.kept q hq) (hkeep hC (by decide) (by decide)), h.klen, ?_, fun x hx => ?_, ?_, h.hsay, fun x hx => ?_, ?_,
    ⟨.inl h.ownS.1, .inl h.ownS.2.1, fun k hk => .inr hk.symm, fun k hk => .inl (h.ownS.2.2.2 k hk)⟩, fun k hk => ?_⟩
  · rw [List.length_append, pendCells, List.flatMap_append]
    simpa [pendCells] using hown
  · rcases List.mem_append.1 hx with hx | hx
    · exact h.plen x hx
    · obtain rfl : x = (p, b) := by simpa using hx
      exact ⟨hp, hb⟩
  · exact own_same h.hist fun g cur _ hg => hkeep hg (by decide) (by decide)
  · obtain ⟨h1, h2, h3⟩ := h.hblk x hx
    exact ⟨(hkeep h1 (by decide) (by decide)).trans h1, h2, h3⟩
  · obtain ⟨s1, s2, s3⟩ := h.small
    exact ⟨s1, by simp only [List.length_append, List.length_cons, List.length_nil]; omega, s3⟩
  · rcases hk with hk | hk
    · exact Nat.lt_of_lt_of_le (h.ltS k hk) hz
    · exact (hown.lt k hk.symm).2

set_option maxRecDepth 100000 in
set_option maxHeartbeats 400000 in
theorem Write_down (p : Int) (A : Option Addr) (n c : Nat) (h : DiskP w d D S bk pv av H) (hd : D.down = true) :
    Calls Try.prog 50 #[.pointer (some ⟨d, 0, none⟩), .int .i64 p, .slice A n c] w fun e w' => e = .returned (.int .i64 12) ∧ w = w' := by
  go_enter Try.func50, Try.ntmps50
  go_wp2_with fail
  refine (Down_any h).mono ?_; rintro e w1 ⟨rfl, rfl⟩
  go_wp2
  go_ret
  exact ⟨rfl, rfl⟩

set_option maxRecDepth 100000 in
set_option maxHeartbeats 400000 in
theorem Write_range (p : Int) (A : Option Addr) (n c : Nat) (h : DiskP w d D S bk pv av H) (hd : D.down = false) (hp : p < 0 ∨ (D.n : Int) ≤ p) :
    Calls Try.prog 50 #[.pointer (some ⟨d, 0, none⟩), .int .i64 p, .slice A n c] w fun e w' => e = .returned (.int .i64 2) ∧ w = w' := by
  have ha : askedD D p = 2 := by unfold askedD; rw [if_pos hp]
  go_enter Try.func50, Try.ntmps50
  go_wp2_with fail
  refine (Down_any h).mono ?_; rintro e w1 ⟨rfl, rfl⟩
  go_wp2_with fail
  refine (asked_any _ h).mono ?_; rintro e w1 ⟨rfl, rfl⟩
  go_wp2
  go_ret
  exact ⟨rfl, rfl⟩

set_option maxRecDepth 100000 in
set_option maxHeartbeats 400000 in
theorem Write_form (p : Int) (A : Option Addr) (n c : Nat) (h : DiskP w d D S bk pv av H) (hd : D.down = false) (hp : ¬ (p < 0 ∨ (D.n : Int) ≤ p)) (hn : n ≠ 512) :
    Calls Try.prog 50 #[.pointer (some ⟨d, 0, none⟩), .int .i64 p, .slice A n c] w fun e w' => e = .returned (.int .i64 4) ∧ w = w' := by
  have ha : askedD D p = 0 := by unfold askedD; rw [if_neg hp]
  have hnb : ((n : Int) != 512) = true := by simp; omega
  go_enter Try.func50, Try.ntmps50
  go_wp2_with fail
  refine (Down_any h).mono ?_; rintro e w1 ⟨rfl, rfl⟩
  go_wp2_with fail
  refine (asked_any _ h).mono ?_; rintro e w1 ⟨rfl, rfl⟩
  go_wp2
  go_ret
  exact ⟨rfl, rfl⟩

set_option maxRecDepth 100000 in
set_option maxHeartbeats 1000000 in
theorem Write_yes (p : Nat) (g o c : Nat) (b : List UInt8) (h : DiskP w d D S bk pv av H) (hd : D.down = false) (hp : p < D.n) (hb : b.length = 512) (hr : w.rangeAt g o (bytesV b)) (hgS : ¬ S g)
    (hsm : D.pend.length + D.hist.length + 1 ≤ 1000000) (hc : D.calls + 1 ≤ 1000000000) :
    Calls Try.prog 50 #[.pointer (some ⟨d, 0, none⟩), .int .i64 (p : Int), .slice (some ⟨g, o, none⟩) 512 c] w fun e w' =>
      e = .returned (.int .i64 (burnD { D with pend := D.pend ++ [(p, b)] }).1) ∧ ∃ S' pv', DiskP w' d (burnD { D with pend := D.pend ++ [(p, b)] }).2 S' bk pv' av H ∧ Frame S w w' ∧ ∀ k, S' k → S k ∨ w.heap.size ≤ k := by
  have ha : askedD D p = 0 := by unfold askedD; rw [if_neg (by omega)]
  have hlen : (bytesV b).length = 512 := by rw [bytesV_length, hb]
  have hone := bytesV_one b
  have hszV : (Try.prog.info? 175).map (·.size) = some (bytesV b).length := by rw [hlen]; exact size_block
  have hbuild := run_build_wait (p : Int) (bytesV b) hlen
  have hgp : some g ≠ pv.ownBlock := fun e => hgS (h.ownS.2.2.1 g e.symm)
  have harr : ∀ w', (Instr.arrayAt 175 (.slice (some ⟨g, o, none⟩) 512 c)).run Try.prog w' = .ok (.pointer (some ⟨g, o, none⟩)) w' := fun _ => by kernel_rfl
  have hlt : g < w.heap.size := rangeAt_lt hr (by rw [hlen]; decide)
  generalize hV : bytesV b = V at hlen hone hr hszV hbuild
  have HV := Lib.hid hV; clear hV
  have Hlen := Lib.hid hlen; clear hlen
  have Hone := Lib.hid hone; clear hone
  have Hb := Lib.hid hb; clear hb
  have Hr := Lib.hid hr; clear hr
  have HszV := Lib.hid hszV; clear hszV
  have Hbuild := Lib.hid hbuild; clear hbuild
  have Harr := Lib.hid harr; clear harr
  go_enter Try.func50, Try.ntmps50
  go_wp2_with fail
  refine (Down_any h).mono ?_; rintro e w1 ⟨rfl, rfl⟩
  go_wp2_with fail
  refine (asked_any _ h).mono ?_; rintro e w1 ⟨rfl, rfl⟩
  go_wp2_with fail
  obtain ⟨c0, c1, c2, c3, c4, c5, hf⟩ := h.cells
  refine wp_region_in (fun w' => w'.cell? ⟨d, 1, none⟩ = some pv ∧ w'.rangeAt g o V) [(0, true), (1, true), (2, true), (3, true), (4, true), (5, true), (6, true), (7, true), (8, true), (9, true), (10, false), (11, false), (12, true), (13, true), (14, false)] (by kernel_rfl) (by kernel_rfl) (fun _ _ _ _ _ h => h) ⟨c1, by simpa using Hr.out⟩ (fun hne => ?_)
  have hs0 : ∀ x : InS (fun w' => w'.cell? ⟨d, 1, none⟩ = some pv ∧ w'.rangeAt g o V), x.w.cell? ⟨d, 1, none⟩ = some pv := fun x => x.h.1
  obtain ⟨i1, hi1, hi1z, hi1s, hi1b⟩ := info_wait2
  have hdlt := blk_lt h.hdr
  have hdne : some d ≠ pv.ownBlock := own_ne h.pend h.hdr (by decide)
  simp only [permOps, List.map_cons, List.map_nil, List.getD_cons_zero, List.getD_cons_succ]
  (iterate 7 ((with_reducible refine wpPerm_F ?_); intro K hK; go_simp; refine hK _ _ ?_; clear hK K))
  have Harr2 := Harr.out
  (iterate 1 ((with_reducible refine wpPerm_F ?_); intro K hK; go_simp; refine hK _ _ ?_; clear hK K))
  refine wpPerm_F1 rfl _ (okVal_load 175 _ rfl g o rfl V _ (fun w' ⟨x, hx⟩ => by rw [hx]; exact x.h.2) Try.underlying175 rfl HszV.out) ?_
  refine wpPerm_F1 rfl _ (okVal_build 177 _ rfl #[(0, .int .i64 (p : Int)), (1, .agg V.toArray)] (by go_simp) _ Hbuild.out) ?_
  (with_reducible refine wpPerm_E rfl ?_); intro K hK
  refine wp_buildOne 169 177 _ rfl (.agg (.int .i64 (p : Int) :: V).toArray) rfl (.int .i64 (p : Int) :: V) rfl i1 waitZero Try.underlying169 hi1 hi1z 513 hi1s (by rw [List.length_cons, Hlen.out]) (by decide) (by decide) ?_
  (refine hK _ _ ?_; clear hK K)
  have hown0 : (w.drew.alloc (.cells (.int .i64 (p : Int) :: V).toArray 177)).ownsRow 0 177 513 pv D.pend.length (pendCells D.pend) := (World.ownsRow.drew h.pend).alloc _
  have hfr2 := ((Frame.refl S w).drew).alloc (.cells (.int .i64 (p : Int) :: V).toArray 177)
  have c1A : (w.drew.alloc (.cells (.int .i64 (p : Int) :: V).toArray 177)).cell? ⟨d, 1, none⟩ = some pv := by go_simp
  have hrA : (w.drew.alloc (.cells (.int .i64 (p : Int) :: V).toArray 177)).rangeAt g o V := rangeAt_keep (w := w) Hr.out (Below.heap_alloc w.drew _ _ hlt)
  have hzA : (w.drew.alloc (.cells (.int .i64 (p : Int) :: V).toArray 177)).heap.size = w.heap.size + 1 := Array.size_push _
  have hblkA : ∀ k, k < w.heap.size → (w.drew.alloc (.cells (.int .i64 (p : Int) :: V).toArray 177)).heap[k]? = w.heap[k]? := fun k hk => Below.heap_alloc w.drew _ _ hk
  have hnewb : (w.drew.alloc (.cells (.int .i64 (p : Int) :: V).toArray 177)).heap[w.heap.size]? = some (.cells (.int .i64 (p : Int) :: V).toArray 177 (0, 0)) := heap_alloc_new w.drew _
  refine ⟨⟨⟨_, c1A, hrA⟩, rfl⟩, ?_⟩
  (with_reducible refine wpPerm_E rfl ?_); intro K hK
  have hl2 : (Value.int .i64 (p : Int) :: V).length = 1 * 513 := by rw [List.length_cons, Hlen.out]
  have hn2 := World.news_of_block hnewb
  have ho2 : ∀ u ∈ (Value.int .i64 (p : Int) :: V), u.oneCell' = true := List.forall_mem_cons.2 ⟨rfl, Hone.out⟩
  refine wp_append_at (.tmp 23) (.tmp 29) 169 ?r1 0 177 i1 waitZero 513 520 Try.underlying169 hi1 hi1z hi1s hi1b ?r2 (by decide) pv D.pend.length (pendCells D.pend) ?r3 hown0 ⟨w.heap.size, 0, none⟩ 1 1 (.int .i64 (p : Int) :: V) ?r4 hl2
    hn2 ho2 ?_ ?_ (Nat.zero_le _) ?_
  case r1 => rfl
  case r2 => exact wait_size
  case r3 => rfl
  case r4 => rfl
  · unfold maxLen; omega
  · omega
  intro pv' W3 hown3 hgrow3 hat3
  (refine hK _ _ ?_; clear hK K)
  have c1' : W3.cell? ⟨d, 1, none⟩ = some pv := hgrow3.cell c1A hdne
  have f1' : W3.frozen? ⟨d, 1, none⟩ = false := by
    rw [World.frozen?_of_block (hgrow3.block d (by omega) hdne), World.frozen?_of_block (hblkA d hdlt)]
    exact hf 1
  have hrA3 : W3.rangeAt g o V := rangeAt_keep hrA (hgrow3.block g (by omega) hgp)
  obtain ⟨g3, cap3, rfl⟩ := own_succ hown3
  refine ⟨⟨⟨_, c1', hrA3⟩, rfl⟩, ?_⟩
  (repeat ((with_reducible refine wpPerm_F ?_); intro K hK; go_simp; refine hK _ _ ?_; clear hK K))
  (with_reducible refine wpPerm_L rfl ?_); intro K hK
  have hne3 : ∀ k, k < w.heap.size → some k ≠ pv.ownBlock → W3.heap[k]? = w.heap[k]? := fun k hk hka => by
    rw [hgrow3.block k (by omega) hka]; exact hblkA k hk
  have hd3 : W3.heap[d]? = some (.cells #[.slice (some ⟨bk, 0, none⟩) D.n D.n, pv, av, .int .i64 D.fuse, .int .i64 (D.calls : Int), .bool D.down] 171 (0, 0)) := by
    rw [hne3 d hdlt hdne]; exact h.hdr
  have hown4 := own_same (w' := W3.setCell ⟨d, 1, none⟩ (.slice (some ⟨g3, 0, none⟩) (D.pend.length + 1) cap3)) hown3 (fun g cur _ hg => Below.heap_setCell _ _ _ _ (blk_ne hg hd3 (by decide)))
  have hz3 : w.heap.size ≤ W3.heap.size := by have := hgrow3.size; omega
  have h2 := h.wait (w' := W3.setCell ⟨d, 1, none⟩ (.slice (some ⟨g3, 0, none⟩) (D.pend.length + 1) cap3)) p b hp Hb.out hsm (by rw [HV.out]; exact hown4) (blk_set hd3 1 _) (by rw [size_set]; exact hz3) (fun k hk hkd hka => by rw [Below.heap_setCell _ _ _ _ (by simpa using hkd)]; exact hne3 k hk hka)
  have hS2 : ∀ k, pv.ownBlock = some k → S k ∨ w.heap.size ≤ k := fun k hk => .inl (h.ownS.2.2.1 k hk)
  have hfr3 : Frame S w (W3.setCell ⟨d, 1, none⟩ (.slice (some ⟨g3, 0, none⟩) (D.pend.length + 1) cap3)) := (hfr2.grown hgrow3 hS2).setCell (.inl h.ownS.1) _
  have hSS : ∀ k, (S k ∨ some k = (Value.slice (some ⟨g3, 0, none⟩) (D.pend.length + 1) cap3).ownBlock) → S k ∨ w.heap.size ≤ k := fun k hk => by
    rcases hk with hk | hk
    · exact .inl hk
    · rcases hat3 with he | he
      · exact hS2 k (he.symm.trans hk.symm)
      · have hk' := hk.trans he
        right
        have : k = w.heap.size + 1 := by rw [hzA] at hk'; simpa using hk'
        omega
  have H2 := Lib.hid h2; clear h2
  clear hown4 hd3 hne3 hown3 hgrow3 hat3
  go_simp
  (refine hK _ _ ?_; clear hK K)
  go_wp2_with fail
  refine (burn_any H2.out hc).mono ?_
  rintro e w1 ⟨rfl, h3, hf3⟩
  go_wp2
  go_ret
  exact ⟨by simp only [hd]; rfl, _, _, h3, hfr3.trans hf3 hSS, hSS⟩

end
end Go.Proofs.Ytdjndeleafhglaa
namespace Go.Proofs.Ytdjndeleafhglaa
open Go.RowKit

theorem setCells_alloc_go (w : World) (t : TypeId) (vs : List Value) : ∀ (o : Nat) (C : Array Value),
    (w.alloc (.cells C t)).setCells w.heap.size o vs = w.alloc (.cells ((vs.zipIdx o).foldl (fun cs x => cs.setIfInBounds x.2 x.1) C) t) := by
  induction vs with
  | nil => intro o C; rfl
  | cons v r ih =>
    intro o C
    rw [World.setCells, World.setCell_alloc_new, ih]
    rfl
/-- A fresh block is written whole. -/
theorem setCells_alloc (w : World) (t : TypeId) (vs : List Value) (C : Array Value) (h : C.size = vs.length) : (w.alloc (.cells C t)).setCells w.heap.size 0 vs = w.alloc (.cells vs.toArray t) := by
  rw [setCells_alloc_go]
  congr 2
  have key := foldl_set 0 vs 0 C (by omega)
  simp only [Nat.zero_add, List.take_zero, List.nil_append] at key
  rw [List.drop_of_length_le (by rw [Array.length_toList]; omega), List.append_nil] at key
  exact Array.ext' key

/-- The store onto a fresh block, whole. -/
theorem run_storeCells_fresh {P : Program} (w : World) (t : TypeId) (V : List Value) (C : Array Value) (hC : C.size = V.length) (h1 : ∀ v ∈ V, v.oneCell' = true) :
    (storeCells ⟨w.heap.size, 0, none⟩ V).run P (w.alloc (.cells C t)) = .ok () (w.alloc (.cells V.toArray t)) := by
  have hth := there_of (heap_alloc_new w (.cells C t)) (o := 0) (n := V.length) (by omega)
  have h := run_storeCells_cells (P := P) w.heap.size 0 V 0 (w.alloc (.cells C t)) (fun j hj => by simpa using (hth j hj).1) (fun j hj => by simp) h1
  rw [setCells_alloc w t V C hC] at h
  exact h
theorem zero_block_size : Try.zeroCells175.size = 512 := by kernel_rfl
theorem zero_wait_size : Try.zeroCells177.size = 513 := by kernel_rfl

section
variable {w : World} {d : Nat} {D : DS} {S : Nat → Prop} {bk : Nat} {pv av : Value} {H : List (Nat × List UInt8 × Nat)}

theorem asked_nil (p : Int) (w : World) :
    Calls Try.prog 131 #[.pointer none, .int .i64 p] w fun e w' => e = .returned (.int .i64 1) ∧ w = w' := by
  go_enter Try.func131, Try.ntmps131
  go_wp2_with fail
  go_ret
  exact ⟨rfl, rfl⟩

set_option maxRecDepth 100000 in
theorem Put_range (p : Int) (A : Option Addr) (n c : Nat) (h : DiskP w d D S bk pv av H) (hp : p < 0 ∨ (D.n : Int) ≤ p) :
    Calls Try.prog 48 #[.pointer (some ⟨d, 0, none⟩), .int .i64 p, .slice A n c] w fun e w' => e = .returned (.int .i64 2) ∧ w = w' := by
  have ha : askedD D p = 2 := by unfold askedD; rw [if_pos hp]
  go_enter Try.func48, Try.ntmps48
  go_wp2_with fail
  refine (asked_any _ h).mono ?_; rintro e w1 ⟨rfl, rfl⟩
  go_wp2
  go_ret
  exact ⟨rfl, rfl⟩

set_option maxRecDepth 100000 in
theorem Put_form (p : Int) (A : Option Addr) (n c : Nat) (h : DiskP w d D S bk pv av H) (hp : ¬ (p < 0 ∨ (D.n : Int) ≤ p)) (hn : n ≠ 512) :
    Calls Try.prog 48 #[.pointer (some ⟨d, 0, none⟩), .int .i64 p, .slice A n c] w fun e w' => e = .returned (.int .i64 4) ∧ w = w' := by
  have ha : askedD D p = 0 := by unfold askedD; rw [if_neg hp]
  have hnb : ((n : Int) != 512) = true := by simp; omega
  go_enter Try.func48, Try.ntmps48
  go_wp2_with fail
  refine (asked_any _ h).mono ?_; rintro e w1 ⟨rfl, rfl⟩
  go_wp2
  go_ret
  exact ⟨rfl, rfl⟩

set_option maxRecDepth 100000 in
set_option maxHeartbeats 1000000 in
theorem Put_yes (p : Nat) (g o c : Nat) (b : List UInt8) (h : DiskP w d D S bk pv av H) (hp : p < D.n) (hb : b.length = 512) (hr : w.rangeAt g o (bytesV b))
    (hsm : D.pend.length + D.hist.length + 1 ≤ 1000000) :
    Calls Try.prog 48 #[.pointer (some ⟨d, 0, none⟩), .int .i64 (p : Int), .slice (some ⟨g, o, none⟩) 512 c] w fun e w' =>
      e = .returned (.int .i64 0) ∧ ∃ S' av' H', DiskP w' d (keepD D p b) S' bk pv av' H' ∧ Frame S w w' ∧ ∀ k, S' k → S k ∨ w.heap.size ≤ k := by
  have ha : askedD D p = 0 := by unfold askedD; rw [if_neg (by omega)]
  have hlen : (bytesV b).length = 512 := by rw [bytesV_length, hb]
  have hszV : (Try.prog.info? 175).map (·.size) = some (bytesV b).length := by rw [hlen]; exact size_block
  have harr : ∀ w', (Instr.arrayAt 175 (.slice (some ⟨g, o, none⟩) 512 c)).run Try.prog w' = .ok (.pointer (some ⟨g, o, none⟩)) w' := fun _ => by kernel_rfl
  have Hb := Lib.hid hb; clear hb
  have Hr := Lib.hid hr; clear hr
  have HszV := Lib.hid hszV; clear hszV
  have Hlen := Lib.hid hlen; clear hlen
  have hk := keep_any p b h hp Hb.out hsm
  generalize hV : bytesV b = V at hk Hr HszV Hlen
  have HV := Lib.hid hV; clear hV
  have Hk := Lib.hid hk; clear hk
  go_enter Try.func48, Try.ntmps48
  go_wp2_with fail
  refine (asked_any _ h).mono ?_; rintro e w1 ⟨rfl, rfl⟩
  go_wp2_with fail
  refine wp_load_mid 175 _ rfl g o rfl V _ Hr.out Try.underlying175 rfl HszV.out ?_
  go_wp2_with fail
  refine Hk.out.mono ?_
  rintro e w1 ⟨rfl, S', av', H', h3, hf3, hS3⟩
  go_wp2
  go_ret
  exact ⟨rfl, S', av', H', h3, hf3, hS3⟩

/-- What has come to be kept at a place, as a slice of its own. -/
theorem zero_block (w : World) : (zeroValue 175).run Try.prog w = .ok blockZero w := by kernel_rfl
set_option maxRecDepth 100000 in
theorem Kept_nil (p : Int) (w : World) :
    Calls Try.prog 55 #[.pointer none, .int .i64 p] w fun e w' => e = .returned (.slice none 0 0) ∧ w = w' := by
  go_enter Try.func55, Try.ntmps55
  go_wp2_with fail
  refine (asked_nil _ _).mono ?_; rintro e w1 ⟨rfl, rfl⟩
  go_wp2
  go_ret
  exact ⟨rfl, rfl⟩
set_option maxRecDepth 100000 in
theorem Kept_range (p : Int) (h : DiskP w d D S bk pv av H) (hp : p < 0 ∨ (D.n : Int) ≤ p) :
    Calls Try.prog 55 #[.pointer (some ⟨d, 0, none⟩), .int .i64 p] w fun e w' => e = .returned (.slice none 0 0) ∧ w = w' := by
  have ha : askedD D p = 2 := by unfold askedD; rw [if_pos hp]
  go_enter Try.func55, Try.ntmps55
  go_wp2_with fail
  refine (asked_any _ h).mono ?_; rintro e w1 ⟨rfl, rfl⟩
  go_wp2
  go_ret
  exact ⟨rfl, rfl⟩

set_option maxRecDepth 100000 in
set_option maxHeartbeats 1000000 in
theorem Kept_yes (p : Nat) (h : DiskP w d D S bk pv av H) (hp : p < D.n) :
    Calls Try.prog 55 #[.pointer (some ⟨d, 0, none⟩), .int .i64 (p : Int)] w fun e w' =>
      e = .returned (.slice (some ⟨w.heap.size, 0, none⟩) 512 512) ∧ w'.heap[w.heap.size]? = some (.cells (bytesV (D.kept p)).toArray 175 (0, 0)) ∧ Below w.heap.size w w' := by
  have ha : askedD D p = 0 := by unfold askedD; rw [if_neg (by omega)]
  have hlen : (bytesV (D.kept p)).length = 512 := by rw [bytesV_length, h.klen p hp]
  have hszV : (Try.prog.info? 175).map (·.size) = some (bytesV (D.kept p)).length := by rw [hlen]; exact size_block
  have hr := h.kept p hp
  have hone := bytesV_one (D.kept p)
  have hpn : (p : Int) < (D.n : Int) := by omega
  obtain ⟨c0, c1, c2, c3, c4, c5, hf⟩ := h.cells
  have Hr := Lib.hid hr; clear hr
  have HszV := Lib.hid hszV; clear hszV
  have Hlen := Lib.hid hlen; clear hlen
  have Hone := Lib.hid hone; clear hone
  generalize hV : bytesV (D.kept p) = V at Hr HszV Hlen Hone
  have HV := Lib.hid hV; clear hV
  go_enter Try.func55, Try.ntmps55
  go_wp2_with fail
  refine (asked_any _ h).mono ?_; rintro e w1 ⟨rfl, rfl⟩
  go_wp2_with fail
  refine wp_load_mid 175 _ rfl bk (p * 512) rfl V _ Hr.out Try.underlying175 rfl HszV.out ?_
  go_wp2_with fail
  rw [run_storeCells_fresh w _ V _ (by rw [Hlen.out]; exact zero_block_size) Hone.out]
  go_wp2
  go_ret
  exact ⟨rfl, heap_alloc_new w _, Bbox _ _⟩

end
end Go.Proofs.Ytdjndeleafhglaa
namespace Go.Proofs.Ytdjndeleafhglaa
open Go.RowKit

/-- One more word after another. -/
def keepAll (D : DS) (l : List (Nat × List UInt8)) : DS := l.foldl (fun D x => keepD D x.1 x.2) D
theorem keepAll_snoc (D : DS) (l : List (Nat × List UInt8)) (x : Nat × List UInt8) : keepAll D (l ++ [x]) = keepD (keepAll D l) x.1 x.2 := by simp [keepAll]
theorem keepAll_same (l : List (Nat × List UInt8)) : ∀ D : DS, (keepAll D l).n = D.n ∧ (keepAll D l).pend = D.pend ∧ (keepAll D l).hist = D.hist ++ l ∧ (keepAll D l).fuse = D.fuse ∧ (keepAll D l).calls = D.calls ∧ (keepAll D l).down = D.down := by
  induction l with
  | nil => intro D; simp [keepAll]
  | cons x l ih =>
    intro D
    obtain ⟨h1, h2, h3, h4, h5, h6⟩ := ih (keepD D x.1 x.2)
    refine ⟨h1, h2, h3.trans ?_, h4, h5, h6⟩
    simp [keepD]

/-- Nothing is pending any more. -/
def wipeD (D : DS) : DS := { D with pend := [] }

/-- What a flush tells, and the disk behind it. -/
def flushD (D : DS) : Int × DS :=
  if D.down = true then (12, D) else if (burnD D).1 ≠ 0 then burnD D else (0, wipeD (keepAll (burnD D).2 D.pend))

theorem pendCells_get (l : List (Nat × List UInt8)) : ∀ (k : Nat) (x : Nat × List UInt8) (j : Nat), (∀ y ∈ l, y.2.length = 512) → l[k]? = some x → j < 513 → (pendCells l)[k * 513 + j]? = (.int .i64 (x.1 : Int) :: bytesV x.2 : List Value)[j]? := by
  induction l with
  | nil => intro k x j _ h; simp at h
  | cons y l ih =>
    intro k x j hy h hj
    have hlen : (.int .i64 (y.1 : Int) :: bytesV y.2 : List Value).length = 513 := by rw [List.length_cons, bytesV_length, hy y (by simp)]
    have e : pendCells (y :: l) = (.int .i64 (y.1 : Int) :: bytesV y.2) ++ pendCells l := by simp [pendCells]
    rw [e]
    cases k with
    | zero =>
      obtain rfl : y = x := by simpa using h
      rw [List.getElem?_append_left (by omega)]
      simp
    | succ k =>
      rw [List.getElem?_append_right (by omega), hlen, show (k + 1) * 513 + j - 513 = k * 513 + j by omega]
      exact ih k x j (fun z hz => hy z (by simp [hz])) (by simpa using h) hj
theorem pend_at {w : World} {g n cap : Nat} {l : List (Nat × List UInt8)} (h : w.ownsRow 0 177 513 (.slice (some ⟨g, 0, none⟩) n cap) n (pendCells l)) (hl : ∀ y ∈ l, y.2.length = 512) (hn : n = l.length)
    (k : Nat) (x : Nat × List UInt8) (hk : l[k]? = some x) : w.rangeAt g (k * 513) (.int .i64 (x.1 : Int) :: bytesV x.2) := fun j v hv => by
  have hlen : (.int .i64 (x.1 : Int) :: bytesV x.2 : List Value).length = 513 := by rw [List.length_cons, bytesV_length, hl x (List.mem_of_getElem? hk)]
  have hj : j < 513 := by rw [← hlen]; exact (List.getElem?_eq_some_iff.1 hv).1
  have hkl : k < l.length := (List.getElem?_eq_some_iff.1 hk).1
  have hmul : (k + 1) * 513 ≤ n * 513 := Nat.mul_le_mul_right _ (by omega)
  rw [h.cellAt (k * 513 + j) (by omega), pendCells_get l k x j hl hk hj, hv]

section
variable {w : World} {d : Nat} {D : DS} {S : Nat → Prop} {bk : Nat} {pv av : Value} {H : List (Nat × List UInt8 × Nat)}

/-- What is pending is let go. -/
theorem DiskP.wiped (h : DiskP w d D S bk pv av H) : DiskP (w.setCell ⟨d, 1, none⟩ (.slice none 0 0)) d (wipeD D) S bk (.slice none 0 0) av H := by
  obtain ⟨C, hC, hCs⟩ := h.blk
  have hb : ∀ k, k ≠ d → (w.setCell ⟨d, 1, none⟩ (.slice none 0 0)).heap[k]? = w.heap[k]? := fun k hk => Below.heap_setCell _ _ _ _ (by simpa using hk)
  refine ⟨blk_set h.hdr 1 _, ⟨C, (hb bk (blk_ne hC h.hdr (by decide))).trans hC, hCs⟩, fun q hq => rangeAt_keep (h.kept q hq) (hb bk (blk_ne hC h.hdr (by decide))), h.klen, World.ownsRow_nil _ _ _ _, fun x hx => by simp [wipeD] at hx,
    own_same h.hist fun g cur _ hg => hb g (blk_ne hg h.hdr (by decide)), h.hsay, fun x hx => ?_, ?_, ⟨h.ownS.1, h.ownS.2.1, fun k hk => by simp [Value.ownBlock] at hk, h.ownS.2.2.2⟩, fun k hk => by rw [size_set]; exact h.ltS k hk⟩
  · obtain ⟨h1, h2, h3⟩ := h.hblk x hx
    exact ⟨(hb _ (blk_ne h1 h.hdr (by decide))).trans h1, h2, h3⟩
  · obtain ⟨s1, s2, s3⟩ := h.small
    exact ⟨s1, by simp only [wipeD, List.length_nil]; omega, s3⟩

theorem Flush_nil (w : World) : Calls Try.prog 81 #[.pointer none] w fun e w' => e = .returned (.int .i64 1) ∧ w = w' := by
  go_enter Try.func81, Try.ntmps81
  go_wp2_with fail
  go_ret
  exact ⟨rfl, rfl⟩

set_option maxRecDepth 100000 in
set_option maxHeartbeats 400000 in
theorem Flush_down (h : DiskP w d D S bk pv av H) (hd : D.down = true) :
    Calls Try.prog 81 #[.pointer (some ⟨d, 0, none⟩)] w fun e w' => e = .returned (.int .i64 12) ∧ w = w' := by
  obtain ⟨c0, c1, c2, c3, c4, c5, hf⟩ := h.cells
  rw [hd] at c5
  go_enter Try.func81, Try.ntmps81
  go_wp2
  go_ret
  exact ⟨rfl, rfl⟩

set_option maxRecDepth 100000 in
set_option maxHeartbeats 400000 in
theorem Flush_burnt (h : DiskP w d D S bk pv av H) (hd : D.down = false) (hc : D.calls + 1 ≤ 1000000000) (hb : (burnD D).1 ≠ 0) :
    Calls Try.prog 81 #[.pointer (some ⟨d, 0, none⟩)] w fun e w' => e = .returned (.int .i64 (burnD D).1) ∧ DiskP w' d (burnD D).2 S bk pv av H ∧ Frame S w w' := by
  obtain ⟨c0, c1, c2, c3, c4, c5, hf⟩ := h.cells
  rw [hd] at c5
  have hb2 : ((burnD D).1 != 0) = true := by simpa using hb
  have Hbu := Lib.hid (burn_any h hc)
  generalize burnD D = B at Hbu hb hb2
  go_enter Try.func81, Try.ntmps81
  go_wp2_with fail
  refine Hbu.out.mono ?_; rintro e w1 ⟨rfl, h1, hf1⟩
  go_wp2
  go_ret
  exact ⟨rfl, h1, hf1⟩

set_option maxRecDepth 100000 in
set_option maxHeartbeats 1000000 in
theorem Flush_yes (h : DiskP w d D S bk pv av H) (hd : D.down = false) (hc : D.calls + 1 ≤ 1000000000) (hb : (burnD D).1 = 0) (hsm : 2 * D.pend.length + D.hist.length ≤ 1000000) :
    Calls Try.prog 81 #[.pointer (some ⟨d, 0, none⟩)] w fun e w' => e = .returned (.int .i64 0) ∧
      ∃ S' pv' av' H', DiskP w' d (wipeD (keepAll (burnD D).2 D.pend)) S' bk pv' av' H' ∧ Frame S w w' ∧ ∀ k, S' k → S k ∨ w.heap.size ≤ k := by
  obtain ⟨c0, c1, c2, c3, c4, c5, hf⟩ := h.cells
  rw [hd] at c5
  have Hbu := Lib.hid (burn_any h hc)
  have hpe : (burnD D).2.pend = D.pend := by unfold burnD; split <;> (try split) <;> rfl
  have hhi : (burnD D).2.hist = D.hist := by unfold burnD; split <;> (try split) <;> rfl
  obtain ⟨A, cap, rfl, hA⟩ : ∃ A cap, pv = .slice A D.pend.length cap ∧ (0 < D.pend.length → ∃ g, A = some ⟨g, 0, none⟩) := by
    rcases h.pend.2 with ⟨rfl, h0⟩ | ⟨g, cap, _, rfl, _⟩
    · exact ⟨none, 0, by rw [h0], fun h => by omega⟩
    · exact ⟨_, cap, rfl, fun _ => ⟨g, rfl⟩⟩
  have Hh := Lib.hid h; clear h
  have HA := Lib.hid hA; clear hA
  generalize hB : burnD D = B at Hbu hb hpe hhi
  have HB := Lib.hid hB; clear hB
  go_enter Try.func81, Try.ntmps81
  go_wp2_with fail
  refine Hbu.out.mono ?_; rintro e w1 ⟨rfl, h1, hf1⟩
  clear c0 c1 c2 c3 c4 c5 hf
  obtain ⟨c0, c1, c2, c3, c4, c5, hf⟩ := h1.cells
  have H1 := Lib.hid h1; clear h1
  go_wp2_with fail
  go_loopw [24] (fun i wr => ∃ k : Nat, k ≤ D.pend.length ∧ i = .int .i64 k ∧ ∃ S' av' H', DiskP wr d (keepAll B.2 (D.pend.take k)) S' bk (.slice A D.pend.length cap) av' H' ∧ Frame S w1 wr ∧ ∀ j, S' j → S j ∨ w1.heap.size ≤ j) (fun i _ => D.pend.length - (intOf i).toNat)
  case atStart => exact ⟨0, by omega, rfl, S, av, H, H1.out, Frame.refl _ _, fun j hj => .inl hj⟩
  case round =>
    obtain ⟨k, hk, rfl, S', av', H', h2, hfr, hSS⟩ := hrel
    obtain ⟨kn, kp, kh, kf, kc, kd⟩ := keepAll_same (D.pend.take k) B.2
    by_cases hlt : k < D.pend.length
    · obtain ⟨g, rfl⟩ := HA.out (by omega)
      obtain ⟨⟨q, b⟩, hqb⟩ : ∃ x, D.pend[k]? = some x := ⟨_, List.getElem?_eq_getElem hlt⟩
      have hmem : (q, b) ∈ (keepAll B.2 (D.pend.take k)).pend := by rw [kp, hpe]; exact List.mem_of_getElem? hqb
      obtain ⟨hqn, hbl⟩ := h2.plen _ hmem
      have hown := h2.pend
      rw [kp, hpe] at hown
      have hrg := pend_at hown (fun y hy => (h2.plen y (by rw [kp, hpe]; exact hy)).2) rfl k (q, b) hqb
      simp only at hrg hqn hbl
      have hlen : (bytesV b).length = 512 := by rw [bytesV_length, hbl]
      have hszU : (Try.prog.info? 177).map (·.size) = some (.int .i64 (q : Int) :: bytesV b : List Value).length := by
        obtain ⟨i1, hi1, _, hi1s, _⟩ := info_wait2
        rw [hi1, List.length_cons, hlen]; simp [hi1s]
      have honeU : ∀ v ∈ (.int .i64 (q : Int) :: bytesV b : List Value), v.oneCell' = true := List.forall_mem_cons.2 ⟨rfl, bytesV_one b⟩
      have hszV : (Try.prog.info? 175).map (·.size) = some (bytesV b).length := by rw [hlen]; exact size_block
      obtain ⟨U, hU⟩ : ∃ U : List Value, U = .int .i64 (q : Int) :: bytesV b := ⟨_, rfl⟩
      have hUl : U.length = 513 := by rw [hU, List.length_cons, hlen]
      rw [← hU] at hrg hszU honeU
      have hkn : (k : Int) < (D.pend.length : Int) := by omega
      have Hqb := Lib.hid hqb; clear hqb
      have HUl := Lib.hid hUl; clear hUl
      have Hrg := Lib.hid hrg; clear hrg
      have HszU := Lib.hid hszU; clear hszU
      have HszV := Lib.hid hszV; clear hszV
      have HoneU := Lib.hid honeU; clear honeU
      have HU := Lib.hid hU; clear hU
      have Hlen := Lib.hid hlen; clear hlen
      go_wp2_with fail
      refine wp_load_mid 177 _ rfl g (k * 513) rfl U _ Hrg.out Try.underlying177 rfl HszU.out ?_
      go_wp2_with fail
      rw [run_storeCells_fresh wr _ U _ (by rw [HUl.out]; exact zero_wait_size) HoneU.out]
      have hcell : (wr.alloc (.cells U.toArray 177)).cell? ⟨wr.heap.size, 0, none⟩ = some (.int .i64 (q : Int)) := by
        rw [cell_of_row _ _ _ _ _ _ (heap_alloc_new wr _), HU.out]; simp
      have hrg2 : (wr.alloc (.cells U.toArray 177)).rangeAt wr.heap.size 1 (bytesV b) := fun j v hv => by
        rw [cell_of_row _ _ _ _ _ _ (heap_alloc_new wr _), HU.out]
        simpa [Nat.add_comm 1 j] using hv
      have h3 := h2.below (Bbox wr (.cells U.toArray 177))
      have hfr3 := hfr.alloc (.cells U.toArray 177)
      have hk3 := keep_any q b h3 hqn hbl (by rw [kp, kh, hpe, hhi]; simp only [List.length_append, List.length_take]; omega)
      have Hk3 := Lib.hid hk3; clear hk3
      have Hrg2 := Lib.hid hrg2; clear hrg2
      have hsz4 : wr.heap.size ≤ (wr.alloc (.cells U.toArray 177)).heap.size := by simp
      have hzr := hfr.size
      generalize wr.alloc (.cells U.toArray 177) = wr2 at hcell Hrg2 hfr3 Hk3 hsz4 ⊢
      go_wp2_with fail
      refine wp_load_mid 175 _ rfl wr.heap.size 1 rfl (bytesV b) _ Hrg2.out Try.underlying175 rfl HszV.out ?_
      go_wp2_with fail
      refine Hk3.out.mono ?_
      rintro e w5 ⟨rfl, S5, av5, H5, h5, hf5, hS5⟩
      have hD5 : keepD (keepAll B.2 (D.pend.take k)) q b = keepAll B.2 (D.pend.take (k + 1)) := by
        rw [List.take_add_one, Hqb.out, Option.toList_some, keepAll_snoc]
      rw [hD5] at h5
      have hrel5 : ∃ S' av' H', DiskP w5 d (keepAll B.2 (D.pend.take (k + 1))) S' bk (.slice (some ⟨g, 0, none⟩) D.pend.length cap) av' H' ∧ Frame S w1 w5 ∧ ∀ j, S' j → S j ∨ w1.heap.size ≤ j :=
        ⟨S5, av5, H5, h5, hfr3.trans hf5 hSS, fun j hj => by
          rcases hS5 j hj with hj | hj
          · exact hSS j hj
          · exact .inr (by omega)⟩
      clear h5 hf5 hS5 hfr3 Hk3 hcell
      go_wp2_with fail
      go_roundw
      case rel => exact ⟨k + 1, by omega, by go_num, hrel5⟩
      case measure => simp [intOf]; omega
    · have hkl : D.pend.take k = D.pend := List.take_of_length_le (by omega)
      rw [hkl] at h2 
      have hkn : ¬ (k : Int) < (D.pend.length : Int) := by omega
      obtain ⟨c0, c1, c2, c3, c4, c5, hf⟩ := h2.cells
      have H2 := Lib.hid h2; clear h2
      clear c0 c2 c3 c4 c5
      go_wp2_with fail
      go_ret
      refine ⟨rfl, S', ⟨_, av', H', H2.out.wiped⟩, ?_, fun j hj => ?_⟩
      · exact hf1.trans (hfr.setCell (hSS d H2.out.ownS.1) _) (fun j hj => .inl hj)
      · have := hf1.size
        rcases hSS j hj with hj | hj
        · exact .inl hj
        · exact .inr (by omega)

end
end Go.Proofs.Ytdjndeleafhglaa
