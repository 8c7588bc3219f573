/- A node, as its functions compute it: the model. -/
import Derived.Test.YteellfgiejnigaaQnS5
namespace Go.Proofs.Yteellfgiejnigaa.RS
set_option linter.unusedVariables false
/-- A node. -/
structure Rf where
  n : Nat
  id : Nat
  T : Nat
  term : Nat
  who : Int
  base : Nat
  bt : Nat
  es : Log
  commit : Nat
  role : Nat
  leader : Int
  left : Int
  quiet : Int
  beat : Int
  round : Nat
  sides : Nat → Bool
  next : Nat → Nat
  mt : Nat → Nat
/-- What a step wants, as far as it is looked at. -/
structure Ou where
  add : Log
  send : List (Nat × Nt)
  need : List Nat
def Ou.none : Ou := ⟨[], [], []⟩
def tipT (T : Nat) (es : Log) : Nat := match es.getLast? with
  | .none => T
  | some e => e.1
def sliceR (B : Nat) (es : Log) (fr most : Nat) : Log := if fr ≤ B ∨ B + es.length < fr ∨ most < 1 then [] else (es.drop (fr - B - 1)).take most
namespace Rf
def last (r : Rf) : Nat := r.base + r.es.length
def tipt (r : Rf) : Nat := tipT r.bt r.es
def others (r : Rf) : List Nat := (List.range r.n).filter fun i => decide (i ≠ r.id)
def most (r : Rf) : Bool := decide (r.n < 2 * (List.range r.n).countP r.sides)
def draw (r : Rf) (d : Nat) : Rf := { r with left := (r.T : Int) + ((d % (r.T + 1) : Nat) : Int) }
def alone (r : Rf) : Rf := { r with sides := fun q => decide (q = r.id) }
def follow (r : Rf) (d : Nat) : Rf := ({ r with role := 0 } : Rf).draw d
def pulse (r : Rf) : Rf := { r with beat := max 1 ((r.T / 4 : Nat) : Int) }
/-- A note of the node's term. -/
def put (r : Rf) (o : Ou) (to : Nat) (x : Nt) : Ou := { o with send := o.send ++ [(to, { x with term := r.term })] }
def nt (k : Nat) : Nt := ⟨k, 0, 0, 0, 0, 0, false, []⟩
def askN (r : Rf) (k : Nat) : Nt := { nt k with index := r.last, at_ := r.tipt, round := if k = 1 then r.round else 0 }
def ask (r : Rf) (o : Ou) (k : Nat) : Ou := r.others.foldl (fun o i => r.put o i (r.askN k)) o
def addN (r : Rf) (i : Nat) : Nt := { nt 5 with index := r.next i - 1, at_ := (termAt r.base r.bt r.es (r.next i - 1)).1, commit := r.commit, list := sliceR r.base r.es (r.next i) 16 }
def update (r : Rf) (o : Ou) (i : Nat) : Ou := if r.next i ≤ r.base then { o with need := o.need ++ [i] } else r.put o i (r.addN i)
def updates (r : Rf) (o : Ou) : Ou := r.others.foldl (fun o i => r.update o i) o
/-- How many have it: itself, and others. -/
def have_ (r : Rf) (k : Nat) : Nat := 1 + r.others.countP fun i => decide (k ≤ r.mt i)
def seeAt (r : Rf) : Nat → Nat
  | 0 => r.commit
  | k + 1 => if k + 1 ≤ r.commit then r.commit else if (termAt r.base r.bt r.es (k + 1)).1 ≠ r.term then r.commit else if r.n < 2 * r.have_ (k + 1) then k + 1 else r.seeAt k
def see (r : Rf) : Rf := { r with commit := r.seeAt r.last }
def add (r : Rf) (d : List UInt8) : Rf := { r with es := r.es ++ [(r.term, d)] }
def addO (r : Rf) (o : Ou) (d : List UInt8) : Ou := { o with add := o.add ++ [(r.term, d)] }
/-- It becomes a leader: ahead of its entry. -/
def lead0 (r : Rf) : Rf := { r with role := 3, leader := r.id, next := fun i => if i < r.n ∧ i ≠ r.id then r.last + 1 else r.next i, mt := fun i => if i < r.n ∧ i ≠ r.id then 0 else r.mt i }
def lead1 (r : Rf) : Rf := (r.lead0.add []).pulse.see
def lead (r : Rf) (o : Ou) : Rf × Ou := (r.lead1, r.lead1.updates (r.lead0.addO o []))
/-- A tick. -/
def tick (r : Rf) (d : Nat) : Rf × Ou :=
  if r.role = 3 then
    let r1 := { r with beat := r.beat - 1 }
    if r1.beat ≤ 0 then (r1.pulse, r1.pulse.updates Ou.none) else (r1, Ou.none)
  else
    let r1 := { r with quiet := min (r.quiet + 1) (r.T : Int), left := r.left - 1 }
    if 0 < r1.left then (r1, Ou.none)
    else if r1.role = 0 then
      let r2 := ({ r1 with role := 1, left := 2 * (r.T : Int), round := r.round + 1 } : Rf).alone
      (r2, r2.ask Ou.none 1)
    else if r1.role = 1 ∧ r1.most = true ∧ r1.term < 18446744073709551615 then
      let r2 := ({ r1 with role := 2, who := (r.id : Int), leader := -1, left := (r.T : Int), term := r.term + 1 } : Rf).alone
      let o := r2.ask Ou.none 3
      if r2.most then r2.lead o else (r2, o)
    else (r1.follow d, Ou.none)
def better (t i t' i' : Nat) : Bool := decide (t' < t) || (decide (t = t') && decide (i' < i))
/-- It hears of a term. -/
def up (r : Rf) (t d : Nat) : Rf :=
  if r.term < t then
    let r1 := if r.role = 3 then r.draw d else r
    { r1 with term := t, who := -1, role := 0, leader := -1 }
  else r
def rankYes (r : Rf) (f : Nat) (x : Nt) (old : Bool) : Bool :=
  !old && ((better x.at_ x.index r.tipt r.last || (decide (x.at_ = r.tipt) && (decide (x.index = r.last) && decide (f < r.id)))) && (decide (r.role ≤ 1) && (decide (r.leader = -1) || decide ((r.T : Int) ≤ r.quiet))))
def rank (r : Rf) (f : Nat) (x : Nt) (old : Bool) (d : Nat) : Rf × Ou :=
  let yes := r.rankYes f x old
  let r1 := if yes then r.follow d else r
  let o := r1.put Ou.none f { nt 2 with round := x.round, yes := yes }
  (r1, if !old && decide (r1.role = 3) then r1.update o f else o)
def voteYes (r : Rf) (f : Nat) (x : Nt) (old : Bool) : Bool := !old && ((decide (r.who = -1) || decide (r.who = (f : Int))) && !better r.tipt r.last x.at_ x.index)
def vote (r : Rf) (f : Nat) (x : Nt) (old : Bool) (d : Nat) : Rf × Ou :=
  let yes := r.voteYes f x old
  let r1 := if yes then ({ r with who := (f : Int) } : Rf).follow d else r
  (r1, r1.put Ou.none f { nt 4 with yes := yes })
def answer (r : Rf) (o : Ou) (f index : Nat) (yes : Bool) : Ou := r.put o f { nt 6 with index := index, yes := yes }
def led1 (r1 : Rf) (f : Nat) (x : Nt) : Rf × Ou :=
  if x.kind = 7 then
    if x.index ≤ r1.commit then (r1, r1.answer Ou.none f r1.commit true)
    else
      let r2 := if (termAt r1.base r1.bt r1.es x.index).2 = true ∧ (termAt r1.base r1.bt r1.es x.index).1 = x.at_ then { r1 with base := x.index, bt := x.at_, es := r1.es.drop (x.index - r1.base), commit := x.index } else { r1 with base := x.index, bt := x.at_, es := [], commit := x.index }
      (r2, r2.answer Ou.none f x.index true)
  else
    let m := meetR r1.base r1.bt r1.es x.index x.at_ x.list
    if m.2.2 = 241 then (r1, r1.answer Ou.none f (min (max x.index 1 - 1) r1.last) false)
    else if m.2.2 = 240 then (r1, r1.answer Ou.none f r1.base true)
    else if m.2.1 ≠ [] ∧ m.1 < r1.commit then (r1, Ou.none)
    else
      let es' := if m.2.1 = [] then r1.es else r1.es.take (m.1 - r1.base) ++ m.2.1
      let there := x.index + x.list.length
      let r2 := { r1 with es := es', commit := max r1.commit (min x.commit there) }
      (r2, r2.answer { Ou.none with add := m.2.1 } f there true)
def led (r : Rf) (f : Nat) (x : Nt) (d : Nat) : Rf × Ou := led1 { r.follow d with leader := (f : Int), quiet := 0 } f x
def added (r : Rf) (f : Nat) (x : Nt) : Rf × Ou :=
  if x.yes = false then
    let r1 := { r with next := fun i => if i = f then max (min (r.next f - 1) (x.index + 1)) (r.mt f + 1) else r.next i }
    (r1, r1.update Ou.none f)
  else
    let m := max (r.mt f) (min x.index r.last)
    let r1 := { r with mt := fun i => if i = f then m else r.mt i, next := fun i => if i = f then m + 1 else r.next i }
    let r2 := r1.see
    (r2, if m + 1 ≤ r.last then r2.update Ou.none f else Ou.none)
/-- A note is heard: from another node, and one that may be. -/
def hear (r : Rf) (f : Nat) (x : Nt) (d : Nat) : Rf × Ou :=
  let r1 := r.up x.term d
  let old := decide (x.term < r1.term)
  if x.kind = 1 then r1.rank f x old d
  else if x.kind = 3 then r1.vote f x old d
  else if x.kind = 5 ∨ x.kind = 7 then
    if old then (r1, r1.put Ou.none f (nt 6))
    else if r1.role ≠ 3 then r1.led f x d else (r1, Ou.none)
  else if x.kind = 2 then
    if !old && (decide (r1.role = 1) && (decide (x.round = r1.round) && x.yes)) then ({ r1 with sides := fun i => if i = f then true else r1.sides i }, Ou.none) else (r1, Ou.none)
  else if x.kind = 4 then
    if !old && (decide (r1.role = 2) && x.yes) then
      let r2 := { r1 with sides := fun i => if i = f then true else r1.sides i }
      if r2.most then r2.lead Ou.none else (r2, Ou.none)
    else (r1, Ou.none)
  else if x.kind = 6 then
    if !old && decide (r1.role = 3) then r1.added f x else (r1, Ou.none)
  else (r1, Ou.none)
def propose (r : Rf) (d : List UInt8) : Rf × Ou :=
  if r.role ≠ 3 ∨ 3000 < d.length then (r, Ou.none)
  else
    let r1 := (r.add d).see
    (r1, r1.updates (r.addO Ou.none d))
/-- It packs what it has committed. -/
def pack (r : Rf) : Rf := { r with base := r.commit, bt := (termAt r.base r.bt r.es r.commit).1, es := r.es.drop (r.commit - r.base) }
/-- It forgets all but its term, its vote and its track. -/
def crash (r : Rf) (d : Nat) : Rf :=
  ({ r with commit := r.base, role := 0, leader := -1, left := 0, quiet := (r.T : Int), beat := 0, round := 0, sides := fun _ => false, next := fun _ => 0, mt := fun _ => 0 } : Rf).draw d
def init (n id T d : Nat) : Rf := ({ n := n, id := id, T := T, term := 0, who := -1, base := 0, bt := 0, es := [], commit := 0, role := 0, leader := -1, left := 0, quiet := (T : Int), beat := 0, round := 0, sides := fun _ => false, next := fun _ => 0, mt := fun _ => 0 } : Rf).draw d
end Rf
end Go.Proofs.Yteellfgiejnigaa.RS
