/- Forms and bounds: of a node, and of what it sends. -/
import Derived.Test.YteellfgiejnigaaQnS14
namespace Go.Proofs.Yteellfgiejnigaa.RS
set_option linter.unusedVariables false
def Et (B : Nat) (e : Nat × List UInt8) : Prop := e.1 ≤ B ∧ e.2.length ≤ 3000
/-- A note that may be, with bounds. -/
structure Mf (B : Nat) (x : Nt) : Prop where
  kind : 1 ≤ x.kind ∧ x.kind ≤ 7
  term : x.term ≤ B
  round : x.round ≤ B ∧ (x.kind ≠ 1 → x.kind ≠ 2 → x.round = 0)
  index : x.index ≤ B ∧ (x.kind = 2 ∨ x.kind = 4 → x.index = 0)
  at_ : x.at_ ≤ B ∧ (x.kind = 2 ∨ x.kind = 4 ∨ x.kind = 6 → x.at_ = 0)
  commit : x.commit ≤ B ∧ (x.kind ≠ 5 → x.commit = 0)
  yes : x.kind = 1 ∨ x.kind = 3 ∨ x.kind = 5 ∨ x.kind = 7 → x.yes = false
  list : x.list.length ≤ 16 ∧ (x.kind ≠ 5 → x.list = []) ∧ ∀ e, e ∈ x.list → Et B e
/-- A node's form. -/
structure Fm (T B : Nat) (r : Rf) : Prop where
  tT : r.T = T
  T1 : 1 ≤ T
  id : r.id < r.n
  term : r.term ≤ B
  base : r.base ≤ B
  bt : r.bt ≤ B
  es : ∀ e, e ∈ r.es → Et B e
  commit : r.commit ≤ B
  role : r.role ≤ 3
  leader : -1 ≤ r.leader ∧ r.leader < (r.n : Int)
  left : 1 ≤ r.left ∧ r.left ≤ 2 * (T : Int)
  quiet : 0 ≤ r.quiet ∧ r.quiet ≤ (T : Int)
  beat : 0 ≤ r.beat ∧ r.beat ≤ (T : Int)
  round : r.round ≤ B
  next : ∀ q, r.next q ≤ B + 1
  mt : ∀ q, r.mt q ≤ B
theorem Et.mono {B C : Nat} {e : Nat × List UInt8} (h : Et B e) (hc : B ≤ C) : Et C e := ⟨Nat.le_trans h.1 hc, h.2⟩
theorem Mf.mono {B C : Nat} {x : Nt} (h : Mf B x) (hc : B ≤ C) : Mf C x :=
  ⟨h.kind, Nat.le_trans h.term hc, ⟨Nat.le_trans h.round.1 hc, h.round.2⟩, ⟨Nat.le_trans h.index.1 hc, h.index.2⟩, ⟨Nat.le_trans h.at_.1 hc, h.at_.2⟩, ⟨Nat.le_trans h.commit.1 hc, h.commit.2⟩, h.yes, h.list.1, h.list.2.1, fun e he => (h.list.2.2 e he).mono hc⟩
theorem Fm.mono {T B C : Nat} {r : Rf} (h : Fm T B r) (hc : B ≤ C) : Fm T C r :=
  ⟨h.tT, h.T1, h.id, Nat.le_trans h.term hc, Nat.le_trans h.base hc, Nat.le_trans h.bt hc, fun e he => (h.es e he).mono hc, Nat.le_trans h.commit hc, h.role, h.leader, h.left, h.quiet, h.beat, Nat.le_trans h.round hc, fun q => by have := h.next q; omega, fun q => Nat.le_trans (h.mt q) hc⟩
def OF (B : Nat) (o : Ou) : Prop := ∀ p, p ∈ o.send → Mf B p.2
section
variable {T B : Nat} {r : Rf} {o : Ou}
theorem of_none : OF B Ou.none := fun p h => by cases h
theorem OF.mono {C : Nat} (h : OF B o) (hc : B ≤ C) : OF C o := fun p hp => (h p hp).mono hc
theorem OF.put (h : OF B o) (r : Rf) (t : Nat) {x : Nt} (hx : Mf B { x with term := r.term }) : OF B (r.put o t x) := by
  intro p hp
  rcases List.mem_append.1 hp with hp | hp
  · exact h p hp
  · have : p = (t, { x with term := r.term }) := by simpa using hp
    subst this
    exact hx
theorem OF.fold {f : Ou → Nat → Ou} (hf : ∀ o q, OF B o → OF B (f o q)) : ∀ (qs : List Nat) {o : Ou}, OF B o → OF B (qs.foldl f o) := by
  intro qs
  induction qs with
  | nil => intro o h; exact h
  | cons q qs ih => intro o h; exact ih (hf o q h)
theorem Fm.tipt (h : Fm T B r) : r.tipt ≤ B := by
  unfold Rf.tipt tipT
  cases e : r.es.getLast? with
  | none => exact h.bt
  | some x => exact (h.es x (List.mem_of_getLast? e)).1
theorem Fm.termAt (h : Fm T B r) (k : Nat) : (RS.termAt r.base r.bt r.es k).1 ≤ B := by
  unfold RS.termAt
  split
  · exact Nat.zero_le _
  · split
    · exact h.bt
    · rw [List.getD_eq_getElem?_getD]
      cases e : r.es[k - r.base - 1]? with
      | none => exact Nat.zero_le _
      | some x => exact (h.es x (List.mem_of_getElem? e)).1
theorem Fm.slice (h : Fm T B r) (fr most : Nat) : ∀ e, e ∈ sliceR r.base r.es fr most → Et B e := by
  intro e he
  unfold sliceR at he
  split at he
  · cases he
  · exact h.es e (List.mem_of_mem_drop (List.mem_of_mem_take he))
theorem slice_len (b : Nat) (es : Log) (fr : Nat) : (sliceR b es fr 16).length ≤ 16 := by
  unfold sliceR
  split
  · exact Nat.zero_le _
  · rw [List.length_take]; omega
theorem Fm.addN (h : Fm T B r) (q : Nat) : Mf B { r.addN q with term := r.term } := by
  have hn := h.next q
  exact ⟨⟨by show 1 ≤ 5; decide, by show 5 ≤ 7; decide⟩, h.term, ⟨Nat.zero_le _, fun _ _ => rfl⟩, ⟨by show r.next q - 1 ≤ B; omega, fun e => by rcases e with e | e <;> exact absurd e (by show ¬ (5 : Nat) = _; decide)⟩, ⟨h.termAt _, fun e => by rcases e with e | e | e <;> exact absurd e (by show ¬ (5 : Nat) = _; decide)⟩, ⟨h.commit, fun e => absurd rfl e⟩, fun _ => rfl, slice_len _ _ _, fun e => absurd rfl e, h.slice _ _⟩
theorem Fm.askN (h : Fm T B r) (hl : r.last ≤ B) {k : Nat} (hk : k = 1 ∨ k = 3) : Mf B { r.askN k with term := r.term } := by
  have ht := h.tipt
  have hrd := h.round
  rcases hk with rfl | rfl
  · exact ⟨⟨by show 1 ≤ 1; decide, by show 1 ≤ 7; decide⟩, h.term, ⟨hrd, fun e _ => absurd rfl e⟩, ⟨hl, fun e => by rcases e with e | e <;> exact absurd e (by show ¬ (1 : Nat) = _; decide)⟩, ⟨ht, fun e => by rcases e with e | e | e <;> exact absurd e (by show ¬ (1 : Nat) = _; decide)⟩, ⟨Nat.zero_le _, fun _ => rfl⟩, fun _ => rfl, Nat.zero_le _, fun _ => rfl, fun e he => by cases he⟩
  · exact ⟨⟨by show 1 ≤ 3; decide, by show 3 ≤ 7; decide⟩, h.term, ⟨Nat.zero_le _, fun _ _ => rfl⟩, ⟨hl, fun e => by rcases e with e | e <;> exact absurd e (by show ¬ (3 : Nat) = _; decide)⟩, ⟨ht, fun e => by rcases e with e | e | e <;> exact absurd e (by show ¬ (3 : Nat) = _; decide)⟩, ⟨Nat.zero_le _, fun _ => rfl⟩, fun _ => rfl, Nat.zero_le _, fun _ => rfl, fun e he => by cases he⟩
theorem Fm.yield (h : Fm T B r) {rd : Nat} (hr : rd ≤ B) (y : Bool) : Mf B { ({ Rf.nt 2 with round := rd, yes := y } : Nt) with term := r.term } :=
  ⟨⟨by show 1 ≤ 2; decide, by show 2 ≤ 7; decide⟩, h.term, ⟨hr, fun _ e => absurd rfl e⟩, ⟨Nat.zero_le _, fun _ => rfl⟩, ⟨Nat.zero_le _, fun _ => rfl⟩, ⟨Nat.zero_le _, fun _ => rfl⟩, fun e => by rcases e with e | e | e | e <;> exact absurd e (by show ¬ (2 : Nat) = _; decide), Nat.zero_le _, fun _ => rfl, fun e he => by cases he⟩
theorem Fm.voted (h : Fm T B r) (y : Bool) : Mf B { ({ Rf.nt 4 with yes := y } : Nt) with term := r.term } :=
  ⟨⟨by show 1 ≤ 4; decide, by show 4 ≤ 7; decide⟩, h.term, ⟨Nat.zero_le _, fun _ _ => rfl⟩, ⟨Nat.zero_le _, fun _ => rfl⟩, ⟨Nat.zero_le _, fun _ => rfl⟩, ⟨Nat.zero_le _, fun _ => rfl⟩, fun e => by rcases e with e | e | e | e <;> exact absurd e (by show ¬ (4 : Nat) = _; decide), Nat.zero_le _, fun _ => rfl, fun e he => by cases he⟩
theorem Fm.answer (h : Fm T B r) {k : Nat} (hk : k ≤ B) (y : Bool) : Mf B { ({ Rf.nt 6 with index := k, yes := y } : Nt) with term := r.term } :=
  ⟨⟨by show 1 ≤ 6; decide, by show 6 ≤ 7; decide⟩, h.term, ⟨Nat.zero_le _, fun _ _ => rfl⟩, ⟨hk, fun e => by rcases e with e | e <;> exact absurd e (by show ¬ (6 : Nat) = _; decide)⟩, ⟨Nat.zero_le _, fun _ => rfl⟩, ⟨Nat.zero_le _, fun _ => rfl⟩, fun e => by rcases e with e | e | e | e <;> exact absurd e (by show ¬ (6 : Nat) = _; decide), Nat.zero_le _, fun _ => rfl, fun e he => by cases he⟩
theorem Fm.shot (h : Fm T B r) : Mf B (shotN r) :=
  ⟨⟨by show 1 ≤ 7; decide, by show 7 ≤ 7; decide⟩, h.term, ⟨Nat.zero_le _, fun _ _ => rfl⟩, ⟨h.base, fun e => by rcases e with e | e <;> exact absurd e (by show ¬ (7 : Nat) = _; decide)⟩, ⟨h.bt, fun e => by rcases e with e | e | e <;> exact absurd e (by show ¬ (7 : Nat) = _; decide)⟩, ⟨Nat.zero_le _, fun _ => rfl⟩, fun _ => rfl, Nat.zero_le _, fun _ => rfl, fun e he => by cases he⟩
theorem OF.update (h : OF B o) (f : Fm T B r) (q : Nat) : OF B (r.update o q) := by
  unfold Rf.update
  split
  · exact h
  · exact h.put r q (f.addN q)
theorem OF.updates (h : OF B o) (f : Fm T B r) : OF B (r.updates o) := OF.fold (fun o q h => h.update f q) _ h
theorem OF.ask (h : OF B o) (f : Fm T B r) (hl : r.last ≤ B) {k : Nat} (hk : k = 1 ∨ k = 3) : OF B (r.ask o k) := OF.fold (fun o q h => h.put r q (f.askN hl hk)) _ h
theorem Fm.draw (f : Fm T B r) (d : Nat) : Fm T B (r.draw d) := by
  have h1 : d % (r.T + 1) < r.T + 1 := Nat.mod_lt _ (Nat.succ_pos _)
  have hT := f.tT
  have hT1 := f.T1
  refine ⟨f.tT, f.T1, f.id, f.term, f.base, f.bt, f.es, f.commit, f.role, f.leader, ?_, f.quiet, f.beat, f.round, f.next, f.mt⟩
  show 1 ≤ (r.T : Int) + ((d % (r.T + 1) : Nat) : Int) ∧ (r.T : Int) + ((d % (r.T + 1) : Nat) : Int) ≤ 2 * (T : Int)
  omega
theorem Fm.follow (f : Fm T B r) (d : Nat) : Fm T B (r.follow d) :=
  Fm.draw (r := { r with role := 0 }) ⟨f.tT, f.T1, f.id, f.term, f.base, f.bt, f.es, f.commit, Nat.zero_le _, f.leader, f.left, f.quiet, f.beat, f.round, f.next, f.mt⟩ d
theorem Fm.pulse (f : Fm T B r) : Fm T B r.pulse := by
  have hT := f.tT
  have hT1 := f.T1
  refine ⟨f.tT, f.T1, f.id, f.term, f.base, f.bt, f.es, f.commit, f.role, f.leader, f.left, f.quiet, ?_, f.round, f.next, f.mt⟩
  show 0 ≤ max 1 ((r.T / 4 : Nat) : Int) ∧ max 1 ((r.T / 4 : Nat) : Int) ≤ (T : Int)
  omega
theorem Fm.see (f : Fm T B r) (hl : r.last ≤ B) : Fm T B r.see := by
  refine ⟨f.tT, f.T1, f.id, f.term, f.base, f.bt, f.es, ?_, f.role, f.leader, f.left, f.quiet, f.beat, f.round, f.next, f.mt⟩
  show r.seeAt r.last ≤ B
  rcases seeAt_is r r.last with h | ⟨_, h, _⟩
  · rw [h]; exact f.commit
  · omega
theorem Fm.add (f : Fm T B r) {d : List UInt8} (hd : d.length ≤ 3000) : Fm T B (r.add d) := by
  refine ⟨f.tT, f.T1, f.id, f.term, f.base, f.bt, fun e he => ?_, f.commit, f.role, f.leader, f.left, f.quiet, f.beat, f.round, f.next, f.mt⟩
  rcases List.mem_append.1 he with he | he
  · exact f.es e he
  · rw [List.mem_singleton.1 he]; exact ⟨f.term, hd⟩
theorem last_add (r : Rf) (d : List UInt8) : (r.add d).last = r.last + 1 := by
  show r.base + (r.es ++ [(r.term, d)]).length = r.base + r.es.length + 1
  rw [List.length_append]
  rfl
theorem Fm.lead (f : Fm T (B + 1) r) (hl : r.last ≤ B) (h : OF (B + 1) o) : Fm T (B + 1) (r.lead o).1 ∧ OF (B + 1) (r.lead o).2 := by
  have f0 : Fm T (B + 1) r.lead0 := by
    refine ⟨f.tT, f.T1, f.id, f.term, f.base, f.bt, f.es, f.commit, Nat.le_refl _, ?_, f.left, f.quiet, f.beat, f.round, fun q => ?_, fun q => ?_⟩
    · have := f.id
      show -1 ≤ (r.id : Int) ∧ (r.id : Int) < (r.n : Int)
      omega
    · show (if q < r.n ∧ q ≠ r.id then r.last + 1 else r.next q) ≤ B + 1 + 1
      split
      · omega
      · exact f.next q
    · show (if q < r.n ∧ q ≠ r.id then 0 else r.mt q) ≤ B + 1
      split
      · exact Nat.zero_le _
      · exact f.mt q
  have f1 := (f0.add (d := []) (Nat.zero_le _)).pulse
  have hl1 : (r.lead0.add []).pulse.last ≤ B + 1 := by
    have := last_add r.lead0 []
    show (r.lead0.add []).last ≤ B + 1
    rw [this]
    show r.last + 1 ≤ B + 1
    omega
  have f2 := f1.see hl1
  exact ⟨f2, OF.updates (o := r.lead0.addO o []) h f2⟩
end
end Go.Proofs.Yteellfgiejnigaa.RS
