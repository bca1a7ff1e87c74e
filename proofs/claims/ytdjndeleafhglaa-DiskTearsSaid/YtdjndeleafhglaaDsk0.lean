/-
  How a disk lies in memory, and what it is in plain words. No walk stands here.
-/
import Derived.Test.YtdjndeleafhglaaPerm
import Derived.Test.YtdjndeleafhglaaRows
import Derived.Deep.MidRow
namespace Go.Proofs.Ytdjndeleafhglaa
open Go.RowKit

/-- Bytes as cells. -/
def bytesV (l : List UInt8) : List Value := l.map fun b => .int .u8 (b.toNat : Int)
theorem bytesV_length (l : List UInt8) : (bytesV l).length = l.length := by simp [bytesV]
theorem bytesV_one (l : List UInt8) : ∀ v ∈ bytesV l, v.oneCell' = true := by
  intro v hv
  simp only [bytesV, List.mem_map] at hv
  obtain ⟨b, _, rfl⟩ := hv
  rfl
theorem bytesV_inj {l m : List UInt8} (h : bytesV l = bytesV m) : l = m := by
  unfold bytesV at h
  induction l generalizing m with
  | nil => cases m with
    | nil => rfl
    | cons b m => simp at h
  | cons a l ih => cases m with
    | nil => simp at h
    | cons b m =>
      simp only [List.map_cons, List.cons.injEq, Value.int.injEq, true_and] at h
      obtain ⟨h1, h2⟩ := h
      have : a.toNat = b.toNat := by omega
      rw [ih h2, UInt8.toNat_inj.1 this]

/-- A disk in plain words. -/
structure DS where
  n : Nat
  kept : Nat → List UInt8
  pend : List (Nat × List UInt8)
  hist : List (Nat × List UInt8)
  fuse : Int
  calls : Nat
  down : Bool

def pendCells (l : List (Nat × List UInt8)) : List Value := l.flatMap fun p => .int .i64 (p.1 : Int) :: bytesV p.2
def histCells (l : List (Nat × List UInt8 × Nat)) : List Value := l.flatMap fun p => [.int .i64 (p.1 : Int), .slice (some ⟨p.2.2, 0, none⟩) 512 512]

/-- A disk with its parts named: its header in block d, what is kept in block bk, the rows of what is pending and of all that came to be kept. S: the blocks that are its own to write. -/
structure DiskP (w : World) (d : Nat) (D : DS) (S : Nat → Prop) (bk : Nat) (pv av : Value) (H : List (Nat × List UInt8 × Nat)) : Prop where
  hdr : w.heap[d]? = some (.cells #[.slice (some ⟨bk, 0, none⟩) D.n D.n, pv, av, .int .i64 D.fuse, .int .i64 (D.calls : Int), .bool D.down] 171 (0, 0))
  blk : ∃ C : Array Value, w.heap[bk]? = some (.cells C 175 (0, 0)) ∧ C.size = D.n * 512
  kept : ∀ p, p < D.n → w.rangeAt bk (p * 512) (bytesV (D.kept p))
  klen : ∀ p, p < D.n → (D.kept p).length = 512
  pend : w.ownsRow 0 177 513 pv D.pend.length (pendCells D.pend)
  plen : ∀ p ∈ D.pend, p.1 < D.n ∧ p.2.length = 512
  hist : w.ownsRow 0 51 2 av D.hist.length (histCells H)
  hsay : D.hist = H.map fun h => (h.1, h.2.1)
  hblk : ∀ h ∈ H, w.heap[h.2.2]? = some (.cells (bytesV h.2.1).toArray 175 (0, 0)) ∧ h.2.2 ≠ bk ∧ h.2.1.length = 512
  small : D.n ≤ 1024 ∧ D.pend.length + D.hist.length ≤ 1000000 ∧ D.calls ≤ 1000000000 ∧ -1 ≤ D.fuse ∧ D.fuse ≤ 9223372036854775807
  ownS : S d ∧ S bk ∧ (∀ k, pv.ownBlock = some k → S k) ∧ (∀ k, av.ownBlock = some k → S k)
  ltS : ∀ k, S k → k < w.heap.size

def DiskAt (w : World) (d : Nat) (D : DS) (S : Nat → Prop) : Prop := ∃ bk pv av H, DiskP w d D S bk pv av H

/-- Nothing but what S names has turned, of what was there. -/
structure Frame (S : Nat → Prop) (w w' : World) : Prop where
  os : w'.os = w.os
  tape : w'.tape = w.tape
  output : w'.output = w.output
  size : w.heap.size ≤ w'.heap.size
  block : ∀ k, k < w.heap.size → ¬ S k → w'.heap[k]? = w.heap[k]?

theorem Frame.refl (S : Nat → Prop) (w : World) : Frame S w w := ⟨rfl, rfl, rfl, Nat.le_refl _, fun _ _ _ => rfl⟩
theorem Frame.of_below {S : Nat → Prop} {w w' : World} (h : Below w.heap.size w w') : Frame S w w' := ⟨h.os, h.tape, h.output, h.size, fun k hk _ => h.block k hk⟩
/-- A later step may write what the earlier step made. -/
theorem Frame.trans {S S' : Nat → Prop} {a b c : World} (h : Frame S a b) (k : Frame S' b c) (hS : ∀ j, S' j → S j ∨ a.heap.size ≤ j) : Frame S a c :=
  ⟨k.os.trans h.os, k.tape.trans h.tape, k.output.trans h.output, Nat.le_trans h.size k.size, fun j hj hn => by
    rw [k.block j (Nat.lt_of_lt_of_le hj h.size) (fun hs => by rcases hS j hs with h1 | h1 <;> first | exact hn h1 | omega), h.block j hj hn]⟩
theorem Frame.below {S : Nat → Prop} {w w' : World} {B : Nat} (h : Frame S w w') (hS : ∀ k, S k → B ≤ k) (hB : B ≤ w.heap.size) : Below B w w' :=
  ⟨h.os, h.tape, h.output, h.size, fun k hk => h.block k (by omega) (fun hs => by have := hS k hs; omega)⟩
theorem Frame.drew {S : Nat → Prop} {w w' : World} (h : Frame S w w') : Frame S w w'.drew := ⟨h.os, h.tape, h.output, h.size, h.block⟩
theorem Frame.alloc {S : Nat → Prop} {w w' : World} (h : Frame S w w') (o : Obj) : Frame S w (w'.alloc o) :=
  ⟨h.os, h.tape, h.output, by have := h.size; simp; omega, fun k hk hn => by rw [Below.heap_alloc _ _ _ (Nat.lt_of_lt_of_le hk h.size)]; exact h.block k hk hn⟩
theorem Frame.setCell {S : Nat → Prop} {w w' : World} (h : Frame S w w') {p : Addr} (hp : S p.block ∨ w.heap.size ≤ p.block) (v : Value) : Frame S w (w'.setCell p v) :=
  ⟨h.os, h.tape, h.output, by have := h.size; simpa [World.setCell] using this, fun k hk hn => by
    rw [Below.heap_setCell _ _ _ _ (fun e => by subst e; rcases hp with hp | hp <;> first | exact hn hp | omega)]; exact h.block k hk hn⟩

theorem Frame.grown {S : Nat → Prop} {w w' w'' : World} {row : Option Nat} (h : Frame S w w') (hg : w'.grownBy w'' row) (hr : ∀ k, row = some k → S k ∨ w.heap.size ≤ k) : Frame S w w'' :=
  ⟨hg.os.trans h.os, hg.tape.trans h.tape, hg.output.trans h.output, Nat.le_trans h.size hg.size, fun k hk hn => by
    rw [hg.block k (Nat.lt_of_lt_of_le hk h.size) (fun e => by rcases hr k e.symm with h1 | h1 <;> first | exact hn h1 | omega)]; exact h.block k hk hn⟩

/-- What a disk's parts lie in is as it was: it is that disk still. -/
theorem DiskP.keep {w w' : World} {d : Nat} {D : DS} {S : Nat → Prop} {bk : Nat} {pv av : Value} {H : List (Nat × List UInt8 × Nat)} (h : DiskP w d D S bk pv av H)
    (hz : w.heap.size ≤ w'.heap.size) (hb : ∀ k, k < w.heap.size → w'.heap[k]? = w.heap[k]?) : DiskP w' d D S bk pv av H := by
  have lt : ∀ {k o}, w.heap[k]? = some o → k < w.heap.size := fun {k o} hk => (Array.getElem?_eq_some_iff.1 hk).1
  obtain ⟨C, hC, hCs⟩ := h.blk
  refine ⟨by rw [hb _ (lt h.hdr)]; exact h.hdr, ⟨C, by rw [hb _ (lt hC)]; exact hC, hCs⟩, fun p hp j v hv => ?_, h.klen, ?_, h.plen, ?_, h.hsay, fun x hx => ?_, h.small, h.ownS, fun k hk => Nat.lt_of_lt_of_le (h.ltS k hk) hz⟩
  · exact (World.cell?_of_block (w := w) (hb bk (lt hC))).trans (h.kept p hp j v hv)
  · refine ⟨h.pend.1, ?_⟩
    rcases h.pend.2 with hn | ⟨g, cap, cur, hv, hb0, hg, rest⟩
    · exact .inl hn
    · exact .inr ⟨g, cap, cur, hv, hb0, by rw [hb _ (lt hg)]; exact hg, rest⟩
  · refine ⟨h.hist.1, ?_⟩
    rcases h.hist.2 with hn | ⟨g, cap, cur, hv, hb0, hg, rest⟩
    · exact .inl hn
    · exact .inr ⟨g, cap, cur, hv, hb0, by rw [hb _ (lt hg)]; exact hg, rest⟩
  · obtain ⟨h1, h2, h3⟩ := h.hblk x hx
    exact ⟨by rw [hb _ (lt h1)]; exact h1, h2, h3⟩
theorem DiskP.below {w w' : World} {d : Nat} {D : DS} {S : Nat → Prop} {bk : Nat} {pv av : Value} {H : List (Nat × List UInt8 × Nat)} (h : DiskP w d D S bk pv av H) (hb : Below w.heap.size w w') : DiskP w' d D S bk pv av H :=
  h.keep hb.size hb.block
theorem DiskAt.below {w w' : World} {d : Nat} {D : DS} {S : Nat → Prop} (h : DiskAt w d D S) (hb : Below w.heap.size w w') : DiskAt w' d D S :=
  let ⟨bk, pv, av, H, hp⟩ := h
  ⟨bk, pv, av, H, hp.below hb⟩

/-- The header's cells. -/
theorem DiskP.cells {w : World} {d : Nat} {D : DS} {S : Nat → Prop} {bk : Nat} {pv av : Value} {H : List (Nat × List UInt8 × Nat)} (h : DiskP w d D S bk pv av H) :
    w.cell? ⟨d, 0, none⟩ = some (.slice (some ⟨bk, 0, none⟩) D.n D.n) ∧ w.cell? ⟨d, 1, none⟩ = some pv ∧ w.cell? ⟨d, 2, none⟩ = some av ∧ w.cell? ⟨d, 3, none⟩ = some (.int .i64 D.fuse) ∧
    w.cell? ⟨d, 4, none⟩ = some (.int .i64 (D.calls : Int)) ∧ w.cell? ⟨d, 5, none⟩ = some (.bool D.down) ∧ ∀ i, w.frozen? ⟨d, i, none⟩ = false := by
  refine ⟨?_, ?_, ?_, ?_, ?_, ?_, fun i => ?_⟩
  all_goals first
    | (rw [cell_of_row w d _ _ _ _ h.hdr]; rfl)
    | (simp [World.frozen?, h.hdr])

theorem blk_set {w : World} {g : Nat} {cs : Array Value} {t : TypeId} {fr : Nat × Nat} (h : w.heap[g]? = some (.cells cs t fr)) (i : Nat) (v : Value) :
    (w.setCell ⟨g, i, none⟩ v).heap[g]? = some (.cells (cs.setIfInBounds i v) t fr) := by
  simp [World.setCell, Array.getElem?_modify, h]
theorem blk_ne {w : World} {g g' : Nat} {cs cs' : Array Value} {t t' : TypeId} {fr fr' : Nat × Nat} (h : w.heap[g]? = some (.cells cs t fr)) (h' : w.heap[g']? = some (.cells cs' t' fr')) (hne : t ≠ t') : g ≠ g' := by
  rintro rfl
  rw [h] at h'
  injection h' with h'
  injection h' with _ ht
  exact hne ht
theorem blk_lt {w : World} {g : Nat} {o : Obj} (h : w.heap[g]? = some o) : g < w.heap.size := (Array.getElem?_eq_some_iff.1 h).1

/-- An owned row whose own block is as it was. -/
theorem own_same {w w' : World} {base : Nat} {e : TypeId} {size : Nat} {v : Value} {n : Nat} {xs : List Value} (h : w.ownsRow base e size v n xs)
    (hb : ∀ g cur, v.ownBlock = some g → w.heap[g]? = some (.cells cur e (0, 0)) → w'.heap[g]? = w.heap[g]?) : w'.ownsRow base e size v n xs := by
  refine ⟨h.1, ?_⟩
  rcases h.2 with hn | ⟨g, cap, cur, hv, hb0, hg, rest⟩
  · exact .inl hn
  · refine .inr ⟨g, cap, cur, hv, hb0, ?_, rest⟩
    rw [hb g cur (by rw [hv]; rfl) hg]
    exact hg

/-- The header's numbers have turned, and nothing else. -/
theorem DiskP.turn {w w' : World} {d : Nat} {D D' : DS} {S : Nat → Prop} {bk : Nat} {pv av : Value} {H : List (Nat × List UInt8 × Nat)} (h : DiskP w d D S bk pv av H)
    (hn : D'.n = D.n) (hk : D'.kept = D.kept) (hp : D'.pend = D.pend) (hh : D'.hist = D.hist) (hsm : D'.calls ≤ 1000000000 ∧ -1 ≤ D'.fuse ∧ D'.fuse ≤ 9223372036854775807)
    (hhdr : w'.heap[d]? = some (.cells #[.slice (some ⟨bk, 0, none⟩) D'.n D'.n, pv, av, .int .i64 D'.fuse, .int .i64 (D'.calls : Int), .bool D'.down] 171 (0, 0)))
    (hb : ∀ k, k ≠ d → w'.heap[k]? = w.heap[k]?) (hz : w'.heap.size = w.heap.size) : DiskP w' d D' S bk pv av H := by
  obtain ⟨C, hC, hCs⟩ := h.blk
  have hbd : bk ≠ d := blk_ne hC h.hdr (by decide)
  refine ⟨hhdr, ⟨C, by rw [hb _ hbd]; exact hC, by rw [hn]; exact hCs⟩, fun p hp' j v hv => ?_, fun p hp' => ?_, ?_, fun p hp' => ?_, ?_, by rw [hh]; exact h.hsay, fun x hx => ?_, ?_, h.ownS, fun k hk => by rw [hz]; exact h.ltS k hk⟩
  · rw [hk] at hv
    exact (World.cell?_of_block (w := w) (hb bk hbd)).trans (h.kept p (by omega) j v hv)
  · rw [hk]; exact h.klen p (by omega)
  · rw [hp]
    exact own_same h.pend fun g cur _ hg => hb g (blk_ne hg h.hdr (by decide))
  · rw [hp] at hp'; rw [hn]; exact h.plen p hp'
  · rw [hh]
    exact own_same h.hist fun g cur _ hg => hb g (blk_ne hg h.hdr (by decide))
  · obtain ⟨h1, h2, h3⟩ := h.hblk x hx
    exact ⟨by rw [hb _ (blk_ne h1 h.hdr (by decide))]; exact h1, h2, h3⟩
  · obtain ⟨s1, s2, s3, s4, s5⟩ := h.small
    obtain ⟨t1, t2, t3⟩ := hsm
    exact ⟨by omega, by rw [hp, hh]; omega, t1, t2, t3⟩

theorem sets_heap (w : World) (b : Nat) (vs : List Value) : ∀ (o k : Nat), k ≠ b → (w.setCells b o vs).heap[k]? = w.heap[k]? := by
  induction vs generalizing w with
  | nil => intro o k _; rfl
  | cons v r ih => intro o k hk; rw [World.setCells, ih _ _ _ hk, Below.heap_setCell _ _ _ _ (by simpa using hk)]
theorem sets_size (w : World) (b : Nat) (vs : List Value) : ∀ o, (w.setCells b o vs).heap.size = w.heap.size := by
  induction vs generalizing w with
  | nil => intro o; rfl
  | cons v r ih => intro o; rw [World.setCells, ih]; simp [World.setCell]
theorem sets_blk {b : Nat} {t : TypeId} {fr : Nat × Nat} (vs : List Value) : ∀ (o : Nat) (w : World) (C : Array Value), w.heap[b]? = some (.cells C t fr) → ∃ C', (w.setCells b o vs).heap[b]? = some (.cells C' t fr) ∧ C'.size = C.size := by
  induction vs with
  | nil => intro o w C h; exact ⟨C, h, rfl⟩
  | cons v r ih =>
    intro o w C h
    obtain ⟨C', h1, h2⟩ := ih (o + 1) _ _ (blk_set h o v)
    exact ⟨C', h1, by simpa using h2⟩
theorem sets_frame {S : Nat → Prop} {w w' : World} (h : Frame S w w') {b : Nat} (hb : S b ∨ w.heap.size ≤ b) (o : Nat) (vs : List Value) : Frame S w (w'.setCells b o vs) := by
  induction vs generalizing o w' with
  | nil => exact h
  | cons v r ih => rw [World.setCells]; exact ih (h.setCell hb v) _
theorem there_of {w : World} {b : Nat} {C : Array Value} {t : TypeId} (h : w.heap[b]? = some (.cells C t (0, 0))) {o n : Nat} (ho : o + n ≤ C.size) : w.there b o n := fun j hj =>
  ⟨by rw [cell_of_row _ _ _ _ _ _ h, Array.getElem?_eq_getElem (by omega)]; rfl, by simp [World.frozen?, h]⟩

/-- Bytes are put at a place of what is kept. -/
theorem DiskP.put {w : World} {d : Nat} {D : DS} {S : Nat → Prop} {bk : Nat} {pv av : Value} {H : List (Nat × List UInt8 × Nat)} (h : DiskP w d D S bk pv av H) (p : Nat) (b : List UInt8) (hp : p < D.n) (hb : b.length = 512) :
    DiskP (w.setCells bk (p * 512) (bytesV b)) d { D with kept := fun q => if q = p then b else D.kept q } S bk pv av H := by
  obtain ⟨C, hC, hCs⟩ := h.blk
  have hmul : (p + 1) * 512 ≤ D.n * 512 := Nat.mul_le_mul_right _ hp
  have hth : w.there bk (p * 512) (bytesV b).length := there_of hC (by rw [bytesV_length, hb, hCs]; omega)
  obtain ⟨C', hC', hCs'⟩ := sets_blk (bytesV b) (p * 512) w C hC
  have hne : ∀ {k : Nat} {o : Obj}, w.heap[k]? = some o → k ≠ bk → (w.setCells bk (p * 512) (bytesV b)).heap[k]? = some o := fun {k o} hk hkb => by rw [sets_heap _ _ _ _ _ hkb]; exact hk
  refine ⟨hne h.hdr (blk_ne h.hdr hC (by decide)), ⟨C', hC', by rw [hCs', hCs]⟩, fun q hq => ?_, fun q hq => ?_, ?_, h.plen, ?_, h.hsay, fun x hx => ?_, h.small, h.ownS, fun k hk => by rw [sets_size]; exact h.ltS k hk⟩
  · by_cases e : q = p
    · subst e
      simp only [if_true]
      exact World.rangeAt_setCells_same _ _ _ _ hth
    · simp only [if_neg e]
      refine World.rangeAt_setCells_apart (h.kept q hq) _ _ _ (.inr ?_)
      rw [bytesV_length, bytesV_length, hb, h.klen q hq]
      omega
  · by_cases e : q = p
    · simp only [if_pos e]; exact hb
    · simp only [if_neg e]; exact h.klen q hq
  · exact own_same h.pend fun g cur _ hg => sets_heap _ _ _ _ _ (blk_ne hg hC (by decide))
  · exact own_same h.hist fun g cur _ hg => sets_heap _ _ _ _ _ (blk_ne hg hC (by decide))
  · obtain ⟨h1, h2, h3⟩ := h.hblk x hx
    exact ⟨hne h1 h2, h2, h3⟩

theorem own_ne {w : World} {base k : Nat} {e t : TypeId} {size n : Nat} {v : Value} {xs : List Value} {cs : Array Value} {fr : Nat × Nat} (h : w.ownsRow base e size v n xs) (hk : w.heap[k]? = some (.cells cs t fr)) (ht : t ≠ e) : some k ≠ v.ownBlock := by
  intro he
  rcases h.2 with ⟨hn, _⟩ | ⟨g, cap, cur, hv, _, hg, _⟩
  · rw [hn] at he; cases he
  · rw [hv] at he
    have : k = g := by simpa [Value.ownBlock] using he
    subst this
    exact blk_ne hk hg ht rfl

theorem own_succ {W : World} {base : Nat} {e : TypeId} {size : Nat} {v : Value} {k : Nat} {xs : List Value} (h : W.ownsRow base e size v (k + 1) xs) : ∃ g cap, v = .slice (some ⟨g, 0, none⟩) (k + 1) cap := by
  rcases h.2 with ⟨_, h0⟩ | ⟨g, cap, _, rfl, _⟩
  · omega
  · exact ⟨g, cap, rfl⟩

/-- One more thing came to be kept: the row of all has grown by it. -/
theorem DiskP.told {w w' : World} {d : Nat} {D : DS} {S : Nat → Prop} {bk : Nat} {pv av av' : Value} {H : List (Nat × List UInt8 × Nat)} (h : DiskP w d D S bk pv av H) (p : Nat) (b : List UInt8) (hb : b.length = 512) (nb : Nat) (hnb : nb ≠ bk)
    (hsm : D.pend.length + D.hist.length + 1 ≤ 1000000)
    (hblk : w.heap[nb]? = some (.cells (bytesV b).toArray 175 (0, 0))) (hown : w'.ownsRow 0 51 2 av' (D.hist.length + 1) (histCells H ++ [.int .i64 (p : Int), .slice (some ⟨nb, 0, none⟩) 512 512]))
    (hhdr : w'.heap[d]? = some (.cells #[.slice (some ⟨bk, 0, none⟩) D.n D.n, pv, av', .int .i64 D.fuse, .int .i64 (D.calls : Int), .bool D.down] 171 (0, 0)))
    (hz : w.heap.size ≤ w'.heap.size) (hw : ∀ k, k < w.heap.size → k ≠ d → some k ≠ av.ownBlock → w'.heap[k]? = w.heap[k]?) :
    DiskP w' d { D with hist := D.hist ++ [(p, b)] } (fun k => S k ∨ some k = av'.ownBlock) bk pv av' (H ++ [(p, b, nb)]) := by
  obtain ⟨C, hC, hCs⟩ := h.blk
  have hnot : ∀ {k : Nat} {cs : Array Value} {t : TypeId}, w.heap[k]? = some (.cells cs t (0, 0)) → t ≠ 51 → some k ≠ av.ownBlock := fun {k cs t} hk ht e => by
    rcases h.hist.2 with ⟨hn, _⟩ | ⟨g, cap, cur, hv, _, hg, _⟩
    · rw [hn] at e; cases e
    · rw [hv] at e
      have : k = g := by simpa [Value.ownBlock] using e
      subst this
      exact blk_ne hk hg ht rfl
  have hkeep : ∀ {k : Nat} {cs : Array Value} {t : TypeId}, w.heap[k]? = some (.cells cs t (0, 0)) → t ≠ 51 → t ≠ 171 → w'.heap[k]? = some (Obj.cells cs t (0, 0)) := fun {k cs t} hk ht1 ht2 => by
    rw [hw k (blk_lt hk) (blk_ne hk h.hdr ht2) (hnot hk ht1)]; exact hk
  refine ⟨hhdr, ⟨C, hkeep hC (by decide) (by decide), hCs⟩, fun q hq j v hv => ?_, h.klen, ?_, h.plen, ?_, ?_, fun x hx => ?_, ?_, ⟨.inl h.ownS.1, .inl h.ownS.2.1, fun k hk => .inl (h.ownS.2.2.1 k hk), fun k hk => .inr hk.symm⟩, fun k hk => ?_⟩
  · exact (World.cell?_of_block (w := w) (hw bk (blk_lt hC) (blk_ne hC h.hdr (by decide)) (hnot hC (by decide)))).trans (h.kept q hq j v hv)
  · exact own_same h.pend fun g cur _ hg => hw g (blk_lt hg) (blk_ne hg h.hdr (by decide)) (hnot hg (by decide))
  · rw [List.length_append, histCells, List.flatMap_append]
    simpa [histCells] using hown
  · rw [List.map_append, h.hsay]; rfl
  · rcases List.mem_append.1 hx with hx | hx
    · obtain ⟨h1, h2, h3⟩ := h.hblk x hx
      exact ⟨hkeep h1 (by decide) (by decide), h2, h3⟩
    · obtain rfl : x = (p, b, nb) := by simpa using hx
      exact ⟨hkeep hblk (by decide) (by decide), hnb, hb⟩
  · obtain ⟨s1, s2, s3⟩ := h.small
    exact ⟨s1, by simp only [List.length_append, List.length_cons, List.length_nil]; omega, s3⟩
  · rcases hk with hk | hk
    · exact Nat.lt_of_lt_of_le (h.ltS k hk) hz
    · exact (hown.lt k hk.symm).2

end Go.Proofs.Ytdjndeleafhglaa
