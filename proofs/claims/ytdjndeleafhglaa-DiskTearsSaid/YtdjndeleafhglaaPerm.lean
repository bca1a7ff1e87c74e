/-
  A region that draws its order, walked once in an order of one's own choosing: operations that only look ('floaters') are taken where the order names them, those with an effect come up one at a time. No program stands here.
-/
import Derived.Test.YtdjndeleafhglaaBase
import Derived.OrdersHeld
import Derived.StillTail
import Derived.Deep.DrawnRows
import Derived.Maps.AppendAt
import Derived.Deep.MidRow
namespace Go.Proofs.Ytdjndeleafhglaa
open Go.RowKit

section
variable {P : Program} {ops : Array Oper} {Q : Exit → Act → World → Prop} {S : World → Prop}

/-- The order is one of the region's: a floater may be taken, an effect is the only one that may come up. -/
def permB (ops : Array Oper) : List (Nat × Bool) → Array Bool → Bool
  | [], listed => (Region.ready .any ops listed).isEmpty
  | (i, true) :: rest, listed => decide (i < ops.size) && (Region.ready .any ops listed).contains i && Region.free .any ops listed i && permB ops rest (listed.setIfInBounds i true)
  | (i, false) :: rest, listed => decide (i < ops.size) && decide (Region.ready .any ops listed = [i]) && permB ops rest (listed.setIfInBounds i true)
/-- What a floater does: a value, and nothing else. -/
def okVal (w : World) (v : Value) : Result Next → Prop
  | .ok (.value u) w' => w' = w ∧ u = v
  | _ => False

attribute [go_sem] okVal

/-- The last operation of the order, if it has an effect and waits for all others: behind it nothing is asked of the world. -/
def lastB (ops : Array Oper) (L : Nat) : Bool := decide (ops.size ≤ L) || (decide (L + 1 = ops.size) && Region.sinkB .any ops L)

/-- What is listed is closed: whatever it waits for is listed. -/
structure Closed (ops : Array Oper) (listed : Array Bool) : Prop where
  size : listed.size = ops.size
  closed : ∀ j oj, ops[j]? = some oj → listed.getD j false = true → ∀ e ∈ oj.after, Region.binds .any e = true → listed.getD e.on false = true
theorem Closed.set {listed : Array Bool} {i : Nat} (inv : Closed ops listed) (hi : i ∈ Region.ready .any ops listed) : Closed ops (listed.setIfInBounds i true) := by
  obtain ⟨_, oi, hoi, hall⟩ := mem_ready.1 hi
  refine ⟨by simp [inv.size], fun j oj hj hl e he hb => ?_⟩
  by_cases hij : i = j
  · subst hij
    have : oj = oi := Option.some.inj (hj.symm.trans hoi)
    subst this
    exact getD_set_true (hall e he hb)
  · rw [getD_set_ne false hij] at hl
    exact getD_set_true (inv.closed j oj hj hl e he hb)
theorem Closed.none : Closed ops (Array.replicate ops.size false) :=
  ⟨by simp, fun j oj _ hl => by rw [getD_replicate_false] at hl; cases hl⟩
/-- While another has not come up, the last does not. -/
theorem last_waits {L i : Nat} {listed : Array Bool} (hL : lastB ops L = true) (inv : Closed ops listed) (hi : listed.getD i true = false) (hiL : i ≠ L) : L ∉ Region.ready .any ops listed := by
  intro hr
  obtain ⟨hun, oL, hoL, _⟩ := mem_ready.1 hr
  have hlt : L < ops.size := (Array.getElem?_eq_some_iff.1 hoL).1
  have his : i < ops.size := by
    rcases Nat.lt_or_ge i ops.size with h | h
    · exact h
    · rw [← inv.size] at h
      simp [Array.getElem?_eq_none h] at hi
  unfold lastB at hL
  simp only [Bool.or_eq_true, decide_eq_true_eq, Bool.and_eq_true] at hL
  rcases hL with h | ⟨h1, h2⟩
  · omega
  · refine tail_waits h2 ?_ hlt ⟨inv.size, inv.closed, fun t ht ht' => ?_⟩ (L - i) i rfl (by omega) hi L (Nat.le_refl _) hr
    · unfold Region.chainB
      rw [List.all_eq_true]
      intro t ht
      have := List.mem_range.1 ht
      simp only [Bool.or_eq_true, decide_eq_true_eq]
      left; omega
    · have : t = L := by omega
      subst this
      exact hun

/-- Whatever order is picked from here on, and 'S' holds behind every operation that is carried out, but the one of number L. -/
def wpAnyX (P : Program) (ops : Array Oper) (Q : Exit → Act → World → Prop) (S : World → Prop) (L : Nat) : Nat → Array Bool → Act → World → Prop
  | 0, listed, a, w => Region.ready .any ops listed = [] ∧ Q .normal a w
  | fuel + 1, listed, a, w =>
    (Region.ready .any ops listed = [] → Q .normal a w) ∧
    ∀ i ∈ Region.ready .any ops listed, wpOp P ops Q i (fun a' w' => (i ≠ L → S w') ∧ wpAnyX P ops Q S L fuel (listed.setIfInBounds i true) a' w') a w
theorem wpAny_of_X {L : Nat} : ∀ (fuel : Nat) (listed : Array Bool) (a : Act) (w : World), wpAnyX P ops Q S L fuel listed a w → wpAny P .any ops Q fuel listed a w
  | 0, _, _, _, h => h
  | fuel + 1, _, _, _, h => ⟨h.1, fun i hi => wpOp_mono (fun a' w' h' => wpAny_of_X fuel _ a' w' h'.2) (h.2 i hi)⟩

theorem wpAnyX_first {L i : Nat} {oi : Oper} {v : Value} (hi : ops[i]? = some oi) (hiL : i ≠ L) (hL : lastB ops L = true) (hsel : ∀ (j : Nat) (o : Oper) cs b, ops[j]? = some o → o.op ≠ .select cs b)
    (hQ : ∀ c a w, Q (.panic c) (a.put oi.dst v) w → Q (.panic c) a w) :
    ∀ (fuel : Nat) (listed : Array Bool) (a : Act) (w : World), Closed ops listed →
      (∀ j oj, ops[j]? = some oj → j ≠ i → listed.getD j true = false → (∀ e ∈ oj.after, Region.binds .any e = true → e.on ≠ i) → oi.apart ops oj = true) →
      i ∈ Region.ready .any ops listed → YieldsIf P ops S oi v a → S w →
      wpAnyX P ops Q S L fuel (listed.setIfInBounds i true) (a.put oi.dst v) w → wpAnyX P ops Q S L (fuel + 1) listed a w := by
  intro fuel
  induction fuel with
  | zero =>
    intro listed a w _ _ hr hy hS H
    refine ⟨fun h => (by rw [h] at hr; cases hr), fun j hj => ?_⟩
    by_cases hji : j = i
    · subst hji; exact hy.wpOp hi hS ⟨fun _ => hS, H⟩
    · have := ready_mono hj hji
      rw [H.1] at this
      cases this
  | succ fuel ih =>
    intro listed a w inv hfree hr hy hS H
    refine ⟨fun h => (by rw [h] at hr; cases hr), fun j hj => ?_⟩
    by_cases hji : j = i
    · subst hji; exact hy.wpOp hi hS ⟨fun _ => hS, H⟩
    · have h1 := H.2 j (ready_mono hj hji)
      obtain ⟨hjun, oj, hoj, hall⟩ := mem_ready.1 hj
      have hnot : ∀ e ∈ oj.after, Region.binds .any e = true → e.on ≠ i := fun e he hb heq => by
        have h1 := hall e he hb
        have h0 := (mem_ready.1 hr).1
        rw [heq] at h1
        rcases Nat.lt_or_ge i listed.size with h' | h'
        · simp [h'] at h0 h1; rw [h0] at h1; cases h1
        · simp [Array.getElem?_eq_none h'] at h1
      have hjL : j ≠ L := by
        rintro rfl
        exact last_waits hL inv (mem_ready.1 hr).1 hiL hj
      have h2 := wpOp_putIf hoj (hfree j oj hoj hji hjun hnot) (fun cs b => hsel i oi cs b hi) (fun cs b => hsel j oj cs b hoj) hQ hy h1
      have hfree' : ∀ k ok, ops[k]? = some ok → k ≠ i → (listed.setIfInBounds j true).getD k true = false →
          (∀ e ∈ ok.after, Region.binds .any e = true → e.on ≠ i) → oi.apart ops ok = true := fun k ok hk hki hun hno => by
        refine hfree k ok hk hki ?_ hno
        by_cases hjk : j = k
        · subst hjk; exact hjun
        · rw [getD_set_ne true hjk] at hun; exact hun
      refine wpOp_mono (fun a' w' h3 => ⟨fun _ => h3.2.1 hjL, ih (listed.setIfInBounds j true) a' w' (inv.set hj) hfree' (ready_mono hr (Ne.symm hji)) h3.1 (h3.2.1 hjL) ?_⟩) h2
      rw [Array.setIfInBounds_comm _ _ hji]
      exact h3.2.2

/-- The walk in that order. -/
def wpPerm (P : Program) (ops : Array Oper) (Q : Exit → Act → World → Prop) (S : World → Prop) : List (Bool × Oper) → Act → World → Prop
  | [], a, w => Q .normal a w
  | (true, o) :: rest, a, w =>
    if Region.wanted o (yielded ops a.tmps) then ∃ v, (∀ w', S w' → okVal w' v ((execOp a.eval o).run P w')) ∧ wpPerm P ops Q S rest (a.put o.dst v) w
    else wpPerm P ops Q S rest (a.put o.dst undef) w
  | [(false, o)], a, w =>
    if Region.wanted o (yielded ops a.tmps) then o.wp P a w (fun a' w' => Q .normal a' w') Q
    else Q .normal (a.put o.dst undef) w
  | (false, o) :: rest, a, w =>
    if Region.wanted o (yielded ops a.tmps) then o.wp P a w (fun a' w' => S w' ∧ wpPerm P ops Q S rest a' w') Q
    else wpPerm P ops Q S rest (a.put o.dst undef) w

/-- Which operation is the exempt one: the last, if it has an effect; else none. -/
def lastOf : List (Nat × Bool) → Nat → Nat
  | [], n => n
  | [(i, false)], _ => i
  | _ :: rest, n => lastOf rest n

def permOK (ops : Array Oper) (order : List (Nat × Bool)) : Bool :=
  Region.noSelect ops && decide (order.length = ops.size) && permB ops order (Array.replicate ops.size false) &&
    (lastB ops (lastOf order ops.size) && order.all fun p => !p.2 || p.1 != lastOf order ops.size)

def permOps (ops : List Oper) (order : List (Nat × Bool)) : List (Bool × Oper) := order.map fun p => (p.2, ops.getD p.1 default)

theorem okVal_spec {w : World} {v : Value} {r : Result Next} (h : okVal w v r) : r = .ok (.value v) w := by
  cases r with
  | ok n w' => cases n <;> simp only [okVal] at h <;> first | (obtain ⟨rfl, rfl⟩ := h; rfl) | exact h.elim
  | halt x w' => exact h.elim

theorem lastOf_cons {p q : Nat × Bool} {rest : List (Nat × Bool)} {n : Nat} : lastOf (p :: q :: rest) n = lastOf (q :: rest) n := by
  obtain ⟨i, f⟩ := p
  cases f <;> rfl

theorem wpPerm_any {L : Nat} (hL : lastB ops L = true) (hsel : Region.noSelect ops = true) (hQ : ∀ c (d : Nat) v a w, Q (.panic c) (Act.put a (some d) v) w → Q (.panic c) a w) :
    ∀ (order : List (Nat × Bool)) (n : Nat) (listed : Array Bool) (a : Act) (w : World), Closed ops listed → S w → permB ops order listed = true → (∀ p ∈ order, p.2 = true → p.1 ≠ L) → (order = [] ∨ lastOf order n = L) →
      wpPerm P ops Q S (permOps ops.toList order) a w → wpAnyX P ops Q S L order.length listed a w := by
  intro order
  induction order with
  | nil =>
    intro n listed a w _ _ hB _ _ h
    exact ⟨by simpa [permB] using hB, by simpa [permOps, wpPerm] using h⟩
  | cons p rest ih =>
    intro n listed a w inv hS hB hne hlast h
    obtain ⟨i, f⟩ := p
    have hlast' : rest = [] ∨ lastOf rest n = L := by
      cases rest with
      | nil => exact .inl rfl
      | cons q rest =>
        rcases hlast with h | h
        · cases h
        · rw [lastOf_cons] at h; exact .inr h
    have hne' : ∀ p ∈ rest, p.2 = true → p.1 ≠ L := fun p hp => hne p (List.mem_cons_of_mem _ hp)
    cases f with
    | true =>
      simp only [permB, Bool.and_eq_true, decide_eq_true_eq] at hB
      obtain ⟨⟨⟨hlt, hr⟩, hf⟩, hB'⟩ := hB
      have hi : ops[i]? = some ops[i] := Array.getElem?_eq_getElem hlt
      have hd : ops.toList.getD i default = ops[i] := by simp [List.getD, hlt]
      simp only [permOps, List.map_cons, hd, wpPerm] at h
      have hQ' : ∀ v, ∀ c a w, Q (.panic c) (a.put ops[i].dst v) w → Q (.panic c) a w := by
        intro v c a w hh
        cases hdst : ops[i].dst with
        | none => rw [hdst] at hh; exact hh
        | some d => rw [hdst] at hh; exact hQ c d v a w hh
      have hiL : i ≠ L := hne (i, true) (List.mem_cons_self ..) rfl
      by_cases hw : Region.wanted ops[i] (yielded ops a.tmps) = true
      · rw [if_pos hw] at h
        obtain ⟨v, hv, hK⟩ := h
        exact wpAnyX_first hi hiL hL (Region.noSelect_spec hsel) (hQ' v) _ _ _ _ inv (Region.free_spec hi hf) (by simpa using hr) (.inl ⟨hw, fun w' hw' => okVal_spec (hv w' hw')⟩) hS (ih n _ _ _ (inv.set (by simpa using hr)) hS hB' hne' hlast' hK)
      · rw [if_neg hw] at h
        exact wpAnyX_first hi hiL hL (Region.noSelect_spec hsel) (hQ' undef) _ _ _ _ inv (Region.free_spec hi hf) (by simpa using hr) (.inr ⟨by simpa using hw, rfl⟩) hS (ih n _ _ _ (inv.set (by simpa using hr)) hS hB' hne' hlast' h)
    | false =>
      simp only [permB, Bool.and_eq_true, decide_eq_true_eq] at hB
      obtain ⟨⟨hlt, hr⟩, hB'⟩ := hB
      have hi : ops[i]? = some ops[i] := Array.getElem?_eq_getElem hlt
      have hd : ops.toList.getD i default = ops[i] := by simp [List.getD, hlt]
      refine ⟨fun h0 => absurd (hr ▸ h0) (by simp), fun j hj => ?_⟩
      have hji : j = i := by rw [hr] at hj; simpa using hj
      subst hji
      have inv' := inv.set hj
      unfold wpOp
      simp only [hi]
      cases rest with
      | nil =>
        have hjL : j = L := by
          rcases hlast with h | h
          · cases h
          · exact h
        have hB0 : Region.ready .any ops (listed.setIfInBounds j true) = [] := by simpa [permB] using hB'
        simp only [permOps, List.map_cons, List.map_nil, hd, wpPerm] at h
        by_cases hw : Region.wanted ops[j] (yielded ops a.tmps) = true
        · rw [if_pos hw] at h ⊢
          exact .inl (Oper.wp_mono (fun a' w' h' => ⟨fun hn => absurd hjL hn, hB0, h'⟩) h)
        · rw [if_neg hw] at h ⊢
          exact ⟨fun hn => absurd hjL hn, hB0, h⟩
      | cons q rest =>
        simp only [permOps, List.map_cons, hd, wpPerm] at h
        by_cases hw : Region.wanted ops[j] (yielded ops a.tmps) = true
        · rw [if_pos hw] at h ⊢
          exact .inl (Oper.wp_mono (fun a' w' h' => ⟨fun _ => h'.1, ih n _ _ _ inv' h'.1 hB' hne' hlast' (by simpa [permOps] using h'.2)⟩) h)
        · rw [if_neg hw] at h ⊢
          exact ⟨fun _ => hS, ih n _ _ _ inv' hS hB' hne' hlast' (by simpa [permOps] using h)⟩

/-- The beginning. -/
theorem wp_region_perm {id : Nat} {a : Act} {w : World} {l : List Oper} (S : World → Prop) (order : List (Nat × Bool)) (hm : P.follows .mixedOrders = true) (hB : permOK l.toArray order = true)
    (hQ : ∀ c (d : Nat) v a w, Q (.panic c) (Act.put a (some d) v) w → Q (.panic c) a w) (hS : S w.drew)
    (h : wpPerm P l.toArray Q S (permOps l order) a w.drew) : (Code.region id l.toArray true).wp P Q a w := by
  simp only [permOK, Bool.and_eq_true, decide_eq_true_eq] at hB
  obtain ⟨⟨⟨hsel, hlen⟩, hp⟩, hl, hall⟩ := hB
  refine wp_region_any hm (wpAny_of_X (S := S) (L := lastOf order l.toArray.size) _ _ _ _ ?_)
  have hlen' : l.toArray.size = order.length := hlen.symm
  rw [show wpAnyX P l.toArray Q S (lastOf order l.toArray.size) l.toArray.size = wpAnyX P l.toArray Q S (lastOf order l.toArray.size) order.length from by rw [← hlen']]
  refine wpPerm_any hl hsel hQ order l.toArray.size _ a _ Closed.none hS hp (fun p hp' ht => ?_) (.inr rfl) (by simpa using h)
  have := List.all_eq_true.1 hall p hp'
  simpa [ht] using this

theorem wpPerm_nil {a : Act} {w : World} (h : Q .normal a w) : wpPerm P ops Q S [] a w := h
theorem wpPerm_F {a : Act} {w : World} {o : Oper} {rest : List (Bool × Oper)}
    (h : ∀ K : Act → World → Prop, (∀ a w, wpPerm P ops Q S rest a w → K a w) →
      if Region.wanted o (yielded ops a.tmps) then ∃ v, (∀ w', S w' → okVal w' v ((execOp a.eval o).run P w')) ∧ K (a.put o.dst v) w else K (a.put o.dst undef) w) :
    wpPerm P ops Q S ((true, o) :: rest) a w := h _ (fun _ _ h => h)
theorem wpPerm_E {a : Act} {w : World} {o : Oper} {q : Bool × Oper} {rest : List (Bool × Oper)} (hg : o.guard = none)
    (h : ∀ K : Act → World → Prop, (∀ a w, (S w ∧ wpPerm P ops Q S (q :: rest) a w) → K a w) → o.wp P a w K Q) :
    wpPerm P ops Q S ((false, o) :: q :: rest) a w := by
  unfold wpPerm
  rw [if_pos (by simp [Region.wanted, hg])]
  exact h _ (fun _ _ h => h)
theorem wpPerm_L {a : Act} {w : World} {o : Oper} (hg : o.guard = none)
    (h : ∀ K : Act → World → Prop, (∀ a w, Q .normal a w → K a w) → o.wp P a w K Q) :
    wpPerm P ops Q S [(false, o)] a w := by
  unfold wpPerm
  rw [if_pos (by simp [Region.wanted, hg])]
  exact h _ (fun _ _ h => h)
/-- A floater by a law of its own. -/
theorem wpPerm_F1 {a : Act} {w : World} {o : Oper} {rest : List (Bool × Oper)} (hg : o.guard = none) (v : Value) (hv : ∀ w', S w' → okVal w' v ((execOp a.eval o).run P w'))
    (h : wpPerm P ops Q S rest (a.put o.dst v) w) : wpPerm P ops Q S ((true, o) :: rest) a w := by
  unfold wpPerm
  rw [if_pos (by simp [Region.wanted, hg])]
  exact ⟨v, hv, h⟩
/-- The load of a whole array, whatever its cells. -/
theorem okVal_load {a : Act} {o : Oper} (ty : TypeId) (x : Operand) (ho : o.op = .load ty x)
    (b off : Nat) (hx : a.eval x = .pointer (some ⟨b, off, none⟩)) (cs : List Value) (d : TypeDesc) (hS : ∀ w, S w → w.rangeAt b off cs)
    (hu : P.underlying ty = some d) (hd : d.isRow = true) (hi : (P.info? ty).map (·.size) = some cs.length) : ∀ w', S w' → okVal w' (.agg cs.toArray) ((execOp a.eval o).run P w') := fun w' hw' => by
  unfold execOp
  simp only [ho, hx, Instr.loadAt, Instr.sureAddr, Sem.run_bind, Sem.run_pure, Result.andThen_ok, run_loadVar_mid w' b off ty cs d (hS w' hw') hu hd hi]
  exact ⟨rfl, rfl⟩
/-- An effect that is guarded: its guard is decided. -/
theorem wpPerm_G {a : Act} {w : World} {o : Oper} {q : Bool × Oper} {rest : List (Bool × Oper)}
    (h : ∀ K K' : Act → World → Prop, (∀ a w, (S w ∧ wpPerm P ops Q S (q :: rest) a w) → K a w) → (∀ a w, wpPerm P ops Q S (q :: rest) a w → K' a w) →
      if Region.wanted o (yielded ops a.tmps) then o.wp P a w K Q else K' (a.put o.dst undef) w) :
    wpPerm P ops Q S ((false, o) :: q :: rest) a w := by
  unfold wpPerm
  exact h _ _ (fun _ _ h => h) (fun _ _ h => h)
end

/-- The worlds that meet S, as one thing to speak of. -/
structure InS (S : World → Prop) : Type where
  w : World
  h : S w

theorem wp_region_in {P : Program} {Q : Exit → Act → World → Prop} {id : Nat} {a : Act} {w : World} {l : List Oper} (S : World → Prop) (order : List (Nat × Bool)) (hm : P.follows .mixedOrders = true) (hB : permOK l.toArray order = true)
    (hQ : ∀ c (d : Nat) v a w, Q (.panic c) (Act.put a (some d) v) w → Q (.panic c) a w) (hS : S w.drew)
    (h : Nonempty (InS S) → wpPerm P l.toArray Q (fun w' => ∃ x : InS S, w' = x.w) (permOps l order) a w.drew) : (Code.region id l.toArray true).wp P Q a w :=
  wp_region_perm _ order hm hB hQ ⟨⟨_, hS⟩, rfl⟩ (h ⟨⟨_, hS⟩⟩)

/-- append onto a row of one's own, at an operation; and where the new row lies. -/
theorem wp_append_at {P : Program} {w : World} {o : Oper} {a : Act} {K : Act → World → Prop} {Q : Exit → Act → World → Prop} (s x : Operand) (t : TypeId)
    (ho : o.op = .call { callee := .builtin .append, args := #[s, x], argTypes := #[t, t] })
    (base : Nat) (e : TypeId) (i : TypeInfo) (z : Value) (size bytes : Nat) (ht : P.underlying t = some (.slice e)) (hi : P.info? e = some i) (hz : i.zero = some z)
    (hsize : i.size = size) (hby : i.bytes = bytes) (hzs : z.cells.size = size) (hsz : 0 < size)
    (v : Value) (n : Nat) (xs : List Value) (hs : a.eval s = v) (hown : w.ownsRow base e size v n xs)
    (ad : Addr) (m c : Nat) (news : List Value) (hx : a.eval x = .slice (some ad) m c) (hl : news.length = m * size) (hnews : ∀ j u, news[j]? = some u → w.cell? (ad.add j) = some u) (h1 : ∀ u ∈ news, u.oneCell' = true)
    (h63 : n + m ≤ maxLen) (hbytes : (n + m) * bytes ≤ 140737488355328) (hbase : base ≤ w.heap.size)
    (h : ∀ v' w', w'.ownsRow base e size v' (n + m) (xs ++ news) → w.grownBy w' v.ownBlock → (v'.ownBlock = v.ownBlock ∨ v'.ownBlock = some w.heap.size) → K (a.put o.dst v') w') :
    o.wp P a w K Q := by
  obtain ⟨v', w', hr, h2, h3, _, h5⟩ := run_append_own_at (P := P) w base t o.type e i z size bytes ht hi hz hsize hby hzs hsz v n xs hown ad m c news hl hnews h1 h63 hbytes hbase
  unfold Oper.wp execOp
  simp only [ho, resolve, invoke, builtin, Sem.run_bind, Sem.run_pure, Result.andThen_ok, List.map_toArray, List.map_cons, List.map_nil, hs, hx, hr]
  exact h v' w' h2 h3 h5

/-- The worlds that are as W was below its heap's size. -/
abbrev BelowW (W : World) : World → Prop := Below W.heap.size W
theorem inB_cell {W : World} (x : InS (BelowW W)) {b o : Nat} (h : b < W.heap.size) : x.w.cell? ⟨b, o, none⟩ = W.cell? ⟨b, o, none⟩ := x.h.cell (p := ⟨b, o, none⟩) h
theorem inB_frozen {W : World} (x : InS (BelowW W)) {b o : Nat} (h : b < W.heap.size) : x.w.frozen? ⟨b, o, none⟩ = W.frozen? ⟨b, o, none⟩ := x.h.frozen (p := ⟨b, o, none⟩) h
theorem inB_drew (W : World) : BelowW W W.drew := (Below.refl _ _).drew
theorem inB_step {W w0 w1 : World} (h : BelowW W w0) (hb : Below w0.heap.size w0 w1) : ∃ x : InS (BelowW W), w1 = x.w := ⟨⟨w1, h.trans (hb.mono h.size)⟩, rfl⟩
theorem inB_more {W w0 : World} (h : BelowW W w0) : ∃ x : InS (BelowW W), w0 = x.w := ⟨⟨w0, h⟩, rfl⟩

end Go.Proofs.Ytdjndeleafhglaa
