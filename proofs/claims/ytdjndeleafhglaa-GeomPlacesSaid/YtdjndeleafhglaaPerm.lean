/-
  A region that draws its order, walked once in an order of one's own choosing: operations that only look ('floaters') are taken where the order names them, those with an effect come up one at a time. No program stands here.
-/
import Derived.Test.YtdjndeleafhglaaBase
import Derived.OrdersHeld
import Derived.Deep.DrawnRows
namespace Go.Proofs.Ytdjndeleafhglaa
open Go.RowKit

section
variable {P : Program} {ops : Array Oper} {Q : Exit → Act → World → Prop} {S : World → Prop}

/-- The order is one of the region's: a floater may be taken, an effect is the only one that may come up. -/
def permB (ops : Array Oper) : List (Nat × Bool) → Array Bool → Bool
  | [], listed => (Region.ready .any ops listed).isEmpty
  | (i, true) :: rest, listed => decide (i < ops.size) && (Region.ready .any ops listed).contains i && Region.free .any ops listed i && permB ops rest (listed.setIfInBounds i true)
  | (i, false) :: rest, listed => decide (i < ops.size) && decide (Region.ready .any ops listed = [i]) && permB ops rest (listed.setIfInBounds i true)
/-- What a floater does: a value, and nothing else. -/
def okVal (w : World) (v : Value) : Result Next → Prop
  | .ok (.value u) w' => w' = w ∧ u = v
  | _ => False

attribute [go_sem] okVal

/-- The last operation of the order, if it has an effect and waits for all others: behind it nothing is asked of the world. -/
def lastB (ops : Array Oper) (L : Nat) : Bool :=
  match ops[L]? with
  | none => true
  | some o => (List.range ops.size).all fun i => i == L || o.after.any fun e => Region.binds .any e && e.on == i

/-- Whatever order is picked from here on, and 'S' holds behind every operation that is carried out, but the one of number L. -/
def wpAnyX (P : Program) (ops : Array Oper) (Q : Exit → Act → World → Prop) (S : World → Prop) (L : Nat) : Nat → Array Bool → Act → World → Prop
  | 0, listed, a, w => Region.ready .any ops listed = [] ∧ Q .normal a w
  | fuel + 1, listed, a, w =>
    (Region.ready .any ops listed = [] → Q .normal a w) ∧
    ∀ i ∈ Region.ready .any ops listed, wpOp P ops Q i (fun a' w' => (i ≠ L → S w') ∧ wpAnyX P ops Q S L fuel (listed.setIfInBounds i true) a' w') a w
theorem wpAny_of_X {L : Nat} : ∀ (fuel : Nat) (listed : Array Bool) (a : Act) (w : World), wpAnyX P ops Q S L fuel listed a w → wpAny P .any ops Q fuel listed a w
  | 0, _, _, _, h => h
  | fuel + 1, _, _, _, h => ⟨h.1, fun i hi => wpOp_mono (fun a' w' h' => wpAny_of_X fuel _ a' w' h'.2) (h.2 i hi)⟩

theorem wpAnyX_first {L i : Nat} {oi : Oper} {v : Value} (hi : ops[i]? = some oi) (hiL : i ≠ L) (hL : lastB ops L = true) (hsel : ∀ (j : Nat) (o : Oper) cs b, ops[j]? = some o → o.op ≠ .select cs b)
    (hQ : ∀ c a w, Q (.panic c) (a.put oi.dst v) w → Q (.panic c) a w) :
    ∀ (fuel : Nat) (listed : Array Bool) (a : Act) (w : World),
      (∀ j oj, ops[j]? = some oj → j ≠ i → listed.getD j true = false → (∀ e ∈ oj.after, Region.binds .any e = true → e.on ≠ i) → oi.apart ops oj = true) →
      i ∈ Region.ready .any ops listed → YieldsIf P ops S oi v a → S w →
      wpAnyX P ops Q S L fuel (listed.setIfInBounds i true) (a.put oi.dst v) w → wpAnyX P ops Q S L (fuel + 1) listed a w := by
  intro fuel
  induction fuel with
  | zero =>
    intro listed a w _ hr hy hS H
    refine ⟨fun h => (by rw [h] at hr; cases hr), fun j hj => ?_⟩
    by_cases hji : j = i
    · subst hji; exact hy.wpOp hi hS ⟨fun _ => hS, H⟩
    · have := ready_mono hj hji
      rw [H.1] at this
      cases this
  | succ fuel ih =>
    intro listed a w hfree hr hy hS H
    refine ⟨fun h => (by rw [h] at hr; cases hr), fun j hj => ?_⟩
    by_cases hji : j = i
    · subst hji; exact hy.wpOp hi hS ⟨fun _ => hS, H⟩
    · have h1 := H.2 j (ready_mono hj hji)
      obtain ⟨hjun, oj, hoj, hall⟩ := mem_ready.1 hj
      have hnot : ∀ e ∈ oj.after, Region.binds .any e = true → e.on ≠ i := fun e he hb heq => by
        have h1 := hall e he hb
        have h0 := (mem_ready.1 hr).1
        rw [heq] at h1
        rcases Nat.lt_or_ge i listed.size with h' | h'
        · simp [h'] at h0 h1; rw [h0] at h1; cases h1
        · simp [Array.getElem?_eq_none h'] at h1
      have hjL : j ≠ L := by
        rintro rfl
        unfold lastB at hL
        simp only [hoj] at hL
        have hii := List.all_eq_true.1 hL i (List.mem_range.2 (Array.getElem?_eq_some_iff.1 hi).1)
        simp only [Bool.or_eq_true, beq_iff_eq] at hii
        rcases hii with h | h
        · exact hiL h
        · obtain ⟨e, he, hb⟩ := Array.any_eq_true'.1 h
          simp only [Bool.and_eq_true, beq_iff_eq] at hb
          exact hnot e he hb.1 hb.2
      have h2 := wpOp_putIf hoj (hfree j oj hoj hji hjun hnot) (fun cs b => hsel i oi cs b hi) (fun cs b => hsel j oj cs b hoj) hQ hy h1
      have hfree' : ∀ k ok, ops[k]? = some ok → k ≠ i → (listed.setIfInBounds j true).getD k true = false →
          (∀ e ∈ ok.after, Region.binds .any e = true → e.on ≠ i) → oi.apart ops ok = true := fun k ok hk hki hun hno => by
        refine hfree k ok hk hki ?_ hno
        by_cases hjk : j = k
        · subst hjk; exact hjun
        · rw [getD_set_ne true hjk] at hun; exact hun
      refine wpOp_mono (fun a' w' h3 => ⟨fun _ => h3.2.1 hjL, ih (listed.setIfInBounds j true) a' w' hfree' (ready_mono hr (Ne.symm hji)) h3.1 (h3.2.1 hjL) ?_⟩) h2
      rw [Array.setIfInBounds_comm _ _ hji]
      exact h3.2.2

/-- The walk in that order. -/
def wpPerm (P : Program) (ops : Array Oper) (Q : Exit → Act → World → Prop) (S : World → Prop) : List (Bool × Oper) → Act → World → Prop
  | [], a, w => Q .normal a w
  | (true, o) :: rest, a, w =>
    if Region.wanted o (yielded ops a.tmps) then ∃ v, (∀ w', S w' → okVal w' v ((execOp a.eval o).run P w')) ∧ wpPerm P ops Q S rest (a.put o.dst v) w
    else wpPerm P ops Q S rest (a.put o.dst undef) w
  | [(false, o)], a, w =>
    if Region.wanted o (yielded ops a.tmps) then o.wp P a w (fun a' w' => Q .normal a' w') Q
    else Q .normal (a.put o.dst undef) w
  | (false, o) :: rest, a, w =>
    if Region.wanted o (yielded ops a.tmps) then o.wp P a w (fun a' w' => S w' ∧ wpPerm P ops Q S rest a' w') Q
    else wpPerm P ops Q S rest (a.put o.dst undef) w

/-- Which operation is the exempt one: the last, if it has an effect; else none. -/
def lastOf : List (Nat × Bool) → Nat → Nat
  | [], n => n
  | [(i, false)], _ => i
  | _ :: rest, n => lastOf rest n

def permOK (ops : Array Oper) (order : List (Nat × Bool)) : Bool :=
  Region.noSelect ops && decide (order.length = ops.size) && permB ops order (Array.replicate ops.size false) &&
    (lastB ops (lastOf order ops.size) && order.all fun p => !p.2 || p.1 != lastOf order ops.size)

def permOps (ops : List Oper) (order : List (Nat × Bool)) : List (Bool × Oper) := order.map fun p => (p.2, ops.getD p.1 default)

theorem okVal_spec {w : World} {v : Value} {r : Result Next} (h : okVal w v r) : r = .ok (.value v) w := by
  cases r with
  | ok n w' => cases n <;> simp only [okVal] at h <;> first | (obtain ⟨rfl, rfl⟩ := h; rfl) | exact h.elim
  | halt x w' => exact h.elim

theorem lastOf_cons {p q : Nat × Bool} {rest : List (Nat × Bool)} {n : Nat} : lastOf (p :: q :: rest) n = lastOf (q :: rest) n := by
  obtain ⟨i, f⟩ := p
  cases f <;> rfl

theorem wpPerm_any {L : Nat} (hL : lastB ops L = true) (hsel : Region.noSelect ops = true) (hQ : ∀ c (d : Nat) v a w, Q (.panic c) (Act.put a (some d) v) w → Q (.panic c) a w) :
    ∀ (order : List (Nat × Bool)) (n : Nat) (listed : Array Bool) (a : Act) (w : World), S w → permB ops order listed = true → (∀ p ∈ order, p.2 = true → p.1 ≠ L) → (order = [] ∨ lastOf order n = L) →
      wpPerm P ops Q S (permOps ops.toList order) a w → wpAnyX P ops Q S L order.length listed a w := by
  intro order
  induction order with
  | nil =>
    intro n listed a w _ hB _ _ h
    exact ⟨by simpa [permB] using hB, by simpa [permOps, wpPerm] using h⟩
  | cons p rest ih =>
    intro n listed a w hS hB hne hlast h
    obtain ⟨i, f⟩ := p
    have hlast' : rest = [] ∨ lastOf rest n = L := by
      cases rest with
      | nil => exact .inl rfl
      | cons q rest =>
        rcases hlast with h | h
        · cases h
        · rw [lastOf_cons] at h; exact .inr h
    have hne' : ∀ p ∈ rest, p.2 = true → p.1 ≠ L := fun p hp => hne p (List.mem_cons_of_mem _ hp)
    cases f with
    | true =>
      simp only [permB, Bool.and_eq_true, decide_eq_true_eq] at hB
      obtain ⟨⟨⟨hlt, hr⟩, hf⟩, hB'⟩ := hB
      have hi : ops[i]? = some ops[i] := Array.getElem?_eq_getElem hlt
      have hd : ops.toList.getD i default = ops[i] := by simp [List.getD, hlt]
      simp only [permOps, List.map_cons, hd, wpPerm] at h
      have hQ' : ∀ v, ∀ c a w, Q (.panic c) (a.put ops[i].dst v) w → Q (.panic c) a w := by
        intro v c a w hh
        cases hdst : ops[i].dst with
        | none => rw [hdst] at hh; exact hh
        | some d => rw [hdst] at hh; exact hQ c d v a w hh
      have hiL : i ≠ L := hne (i, true) (List.mem_cons_self ..) rfl
      by_cases hw : Region.wanted ops[i] (yielded ops a.tmps) = true
      · rw [if_pos hw] at h
        obtain ⟨v, hv, hK⟩ := h
        exact wpAnyX_first hi hiL hL (Region.noSelect_spec hsel) (hQ' v) _ _ _ _ (Region.free_spec hi hf) (by simpa using hr) (.inl ⟨hw, fun w' hw' => okVal_spec (hv w' hw')⟩) hS (ih n _ _ _ hS hB' hne' hlast' hK)
      · rw [if_neg hw] at h
        exact wpAnyX_first hi hiL hL (Region.noSelect_spec hsel) (hQ' undef) _ _ _ _ (Region.free_spec hi hf) (by simpa using hr) (.inr ⟨by simpa using hw, rfl⟩) hS (ih n _ _ _ hS hB' hne' hlast' h)
    | false =>
      simp only [permB, Bool.and_eq_true, decide_eq_true_eq] at hB
      obtain ⟨⟨hlt, hr⟩, hB'⟩ := hB
      have hi : ops[i]? = some ops[i] := Array.getElem?_eq_getElem hlt
      have hd : ops.toList.getD i default = ops[i] := by simp [List.getD, hlt]
      refine ⟨fun h0 => absurd (hr ▸ h0) (by simp), fun j hj => ?_⟩
      have hji : j = i := by rw [hr] at hj; simpa using hj
      subst hji
      unfold wpOp
      simp only [hi]
      cases rest with
      | nil =>
        have hjL : j = L := by
          rcases hlast with h | h
          · cases h
          · exact h
        have hB0 : Region.ready .any ops (listed.setIfInBounds j true) = [] := by simpa [permB] using hB'
        simp only [permOps, List.map_cons, List.map_nil, hd, wpPerm] at h
        by_cases hw : Region.wanted ops[j] (yielded ops a.tmps) = true
        · rw [if_pos hw] at h ⊢
          exact .inl (Oper.wp_mono (fun a' w' h' => ⟨fun hn => absurd hjL hn, hB0, h'⟩) h)
        · rw [if_neg hw] at h ⊢
          exact ⟨fun hn => absurd hjL hn, hB0, h⟩
      | cons q rest =>
        simp only [permOps, List.map_cons, hd, wpPerm] at h
        by_cases hw : Region.wanted ops[j] (yielded ops a.tmps) = true
        · rw [if_pos hw] at h ⊢
          exact .inl (Oper.wp_mono (fun a' w' h' => ⟨fun _ => h'.1, ih n _ _ _ h'.1 hB' hne' hlast' (by simpa [permOps] using h'.2)⟩) h)
        · rw [if_neg hw] at h ⊢
          exact ⟨fun _ => hS, ih n _ _ _ hS hB' hne' hlast' (by simpa [permOps] using h)⟩

/-- The beginning. -/
theorem wp_region_perm {id : Nat} {a : Act} {w : World} {l : List Oper} (S : World → Prop) (order : List (Nat × Bool)) (hm : P.follows .mixedOrders = true) (hB : permOK l.toArray order = true)
    (hQ : ∀ c (d : Nat) v a w, Q (.panic c) (Act.put a (some d) v) w → Q (.panic c) a w) (hS : S w.drew)
    (h : wpPerm P l.toArray Q S (permOps l order) a w.drew) : (Code.region id l.toArray true).wp P Q a w := by
  simp only [permOK, Bool.and_eq_true, decide_eq_true_eq] at hB
  obtain ⟨⟨⟨hsel, hlen⟩, hp⟩, hl, hall⟩ := hB
  refine wp_region_any hm (wpAny_of_X (S := S) (L := lastOf order l.toArray.size) _ _ _ _ ?_)
  have hlen' : l.toArray.size = order.length := hlen.symm
  rw [show wpAnyX P l.toArray Q S (lastOf order l.toArray.size) l.toArray.size = wpAnyX P l.toArray Q S (lastOf order l.toArray.size) order.length from by rw [← hlen']]
  refine wpPerm_any hl hsel hQ order l.toArray.size _ a _ hS hp (fun p hp' ht => ?_) (.inr rfl) (by simpa using h)
  have := List.all_eq_true.1 hall p hp'
  simpa [ht] using this

theorem wpPerm_nil {a : Act} {w : World} (h : Q .normal a w) : wpPerm P ops Q S [] a w := h
theorem wpPerm_F {a : Act} {w : World} {o : Oper} {rest : List (Bool × Oper)}
    (h : ∀ K : Act → World → Prop, (∀ a w, wpPerm P ops Q S rest a w → K a w) →
      if Region.wanted o (yielded ops a.tmps) then ∃ v, (∀ w', S w' → okVal w' v ((execOp a.eval o).run P w')) ∧ K (a.put o.dst v) w else K (a.put o.dst undef) w) :
    wpPerm P ops Q S ((true, o) :: rest) a w := h _ (fun _ _ h => h)
theorem wpPerm_E {a : Act} {w : World} {o : Oper} {q : Bool × Oper} {rest : List (Bool × Oper)} (hg : o.guard = none)
    (h : ∀ K : Act → World → Prop, (∀ a w, (S w ∧ wpPerm P ops Q S (q :: rest) a w) → K a w) → o.wp P a w K Q) :
    wpPerm P ops Q S ((false, o) :: q :: rest) a w := by
  unfold wpPerm
  rw [if_pos (by simp [Region.wanted, hg])]
  exact h _ (fun _ _ h => h)
theorem wpPerm_L {a : Act} {w : World} {o : Oper} (hg : o.guard = none)
    (h : ∀ K : Act → World → Prop, (∀ a w, Q .normal a w → K a w) → o.wp P a w K Q) :
    wpPerm P ops Q S [(false, o)] a w := by
  unfold wpPerm
  rw [if_pos (by simp [Region.wanted, hg])]
  exact h _ (fun _ _ h => h)
/-- An effect that is guarded: its guard is decided. -/
theorem wpPerm_G {a : Act} {w : World} {o : Oper} {q : Bool × Oper} {rest : List (Bool × Oper)}
    (h : ∀ K K' : Act → World → Prop, (∀ a w, (S w ∧ wpPerm P ops Q S (q :: rest) a w) → K a w) → (∀ a w, wpPerm P ops Q S (q :: rest) a w → K' a w) →
      if Region.wanted o (yielded ops a.tmps) then o.wp P a w K Q else K' (a.put o.dst undef) w) :
    wpPerm P ops Q S ((false, o) :: q :: rest) a w := by
  unfold wpPerm
  exact h _ _ (fun _ _ h => h) (fun _ _ h => h)
end

/-- The worlds that meet S, as one thing to speak of. -/
structure InS (S : World → Prop) : Type where
  w : World
  h : S w

theorem wp_region_in {P : Program} {Q : Exit → Act → World → Prop} {id : Nat} {a : Act} {w : World} {l : List Oper} (S : World → Prop) (order : List (Nat × Bool)) (hm : P.follows .mixedOrders = true) (hB : permOK l.toArray order = true)
    (hQ : ∀ c (d : Nat) v a w, Q (.panic c) (Act.put a (some d) v) w → Q (.panic c) a w) (hS : S w.drew)
    (h : Nonempty (InS S) → wpPerm P l.toArray Q (fun w' => ∃ x : InS S, w' = x.w) (permOps l order) a w.drew) : (Code.region id l.toArray true).wp P Q a w :=
  wp_region_perm _ order hm hB hQ ⟨⟨_, hS⟩, rfl⟩ (h ⟨⟨_, hS⟩⟩)

/-- The worlds that are as W was below its heap's size. -/
abbrev BelowW (W : World) : World → Prop := Below W.heap.size W
theorem inB_cell {W : World} (x : InS (BelowW W)) {b o : Nat} (h : b < W.heap.size) : x.w.cell? ⟨b, o, none⟩ = W.cell? ⟨b, o, none⟩ := x.h.cell (p := ⟨b, o, none⟩) h
theorem inB_frozen {W : World} (x : InS (BelowW W)) {b o : Nat} (h : b < W.heap.size) : x.w.frozen? ⟨b, o, none⟩ = W.frozen? ⟨b, o, none⟩ := x.h.frozen (p := ⟨b, o, none⟩) h
theorem inB_drew (W : World) : BelowW W W.drew := (Below.refl _ _).drew
theorem inB_step {W w0 w1 : World} (h : BelowW W w0) (hb : Below w0.heap.size w0 w1) : ∃ x : InS (BelowW W), w1 = x.w := ⟨⟨w1, h.trans (hb.mono h.size)⟩, rfl⟩
theorem inB_more {W w0 : World} (h : BelowW W w0) : ∃ x : InS (BelowW W), w0 = x.w := ⟨⟨w0, h⟩, rfl⟩

end Go.Proofs.Ytdjndeleafhglaa
