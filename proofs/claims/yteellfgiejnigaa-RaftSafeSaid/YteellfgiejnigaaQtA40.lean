/- RaftSafe: H63. -/
import Derived.Test.YteellfgiejnigaaQtA00
import Derived.Test.YteellfgiejnigaaQtA39
import Derived.Deep.CutRange
import Derived.Deep.WholeRow
import Derived.StillTailTactics
namespace Go.Proofs.Yteellfgiejnigaa
open Go.ChangeShapes Go.WideShapes Go.ChangeAt Go.RowKit Go.Maps
set_option linter.unusedVariables false
section
variable {own own' own0 : Own} {w w' w0 : World} {a i N : Nat} {p g : Nat → Nat} {x : RS.W} {v : Wv}
theorem ev0 (x : RS.W) (i k : Nat) (data : List UInt8) (d : Nat) : x.event ⟨0, i, k, data, d⟩ = x.tickOne i d := rfl
theorem ev1 (x : RS.W) (i k : Nat) (data : List UInt8) (d : Nat) : x.event ⟨1, i, k, data, d⟩ = (if x.mails = [] then x else (x.with_ (x.mails.eraseIdx k)).arrive (x.mailAt k) d) := rfl
theorem ev2 (x : RS.W) (i k : Nat) (data : List UInt8) (d : Nat) : x.event ⟨2, i, k, data, d⟩ = (if x.mails = [] then x else x.with_ (x.mails.eraseIdx k)) := rfl
theorem ev3 (x : RS.W) (i k : Nat) (data : List UInt8) (d : Nat) : x.event ⟨3, i, k, data, d⟩ = (if x.mails ≠ [] ∧ x.mails.length < 600 then x.with_ (x.mails ++ [x.mailAt k]) else x) := by
 show (if (3 : Int) = 0 then _ else (if (3 : Int) = 1 then _ else (if (3 : Int) = 2 then _ else (if (3 : Int) = 3 then _ else _)))) = _
 rw [if_neg (by decide), if_neg (by decide), if_neg (by decide), if_pos rfl]
theorem ev4 (x : RS.W) (i k : Nat) (data : List UInt8) (d : Nat) : x.event ⟨4, i, k, data, d⟩ = (if x.up i = true then x.took i ((x.r i).propose data) else x) := by
 show (if (4 : Int) = 0 then _ else (if (4 : Int) = 1 then _ else (if (4 : Int) = 2 then _ else (if (4 : Int) = 3 then _ else (if (4 : Int) = 4 then _ else _))))) = _
 rw [if_neg (by decide), if_neg (by decide), if_neg (by decide), if_neg (by decide), if_pos rfl]
theorem ev5 (x : RS.W) (i k : Nat) (data : List UInt8) (d : Nat) : x.event ⟨5, i, k, data, d⟩ = x.set i ((x.r i).crash d) := by
 show (if (5 : Int) = 0 then _ else (if (5 : Int) = 1 then _ else (if (5 : Int) = 2 then _ else (if (5 : Int) = 3 then _ else (if (5 : Int) = 4 then _ else (if (5 : Int) = 5 then _ else _)))))) = _
 rw [if_neg (by decide), if_neg (by decide), if_neg (by decide), if_neg (by decide), if_neg (by decide), if_pos rfl]
theorem ev6 (x : RS.W) (i k : Nat) (data : List UInt8) (d : Nat) : x.event ⟨6, i, k, data, d⟩ = { x.set i ((x.r i).crash d) with up := fun j => if j = i then !x.up i else x.up j } := by
 show (if (6 : Int) = 0 then _ else (if (6 : Int) = 1 then _ else (if (6 : Int) = 2 then _ else (if (6 : Int) = 3 then _ else (if (6 : Int) = 4 then _ else (if (6 : Int) = 5 then _ else (if (6 : Int) = 6 then _ else _))))))) = _
 rw [if_neg (by decide), if_neg (by decide), if_neg (by decide), if_neg (by decide), if_neg (by decide), if_neg (by decide), if_pos rfl]
theorem ev7 (x : RS.W) (i k : Nat) (data : List UInt8) (d : Nat) : x.event ⟨7, i, k, data, d⟩ = x.set i (x.r i).pack := by
 show (if (7 : Int) = 0 then _ else (if (7 : Int) = 1 then _ else (if (7 : Int) = 2 then _ else (if (7 : Int) = 3 then _ else (if (7 : Int) = 4 then _ else (if (7 : Int) = 5 then _ else (if (7 : Int) = 6 then _ else (if (7 : Int) = 7 then _ else _)))))))) = _
 rw [if_neg (by decide), if_neg (by decide), if_neg (by decide), if_neg (by decide), if_neg (by decide), if_neg (by decide), if_neg (by decide), if_pos rfl]
theorem ev8 (x : RS.W) (i k : Nat) (data : List UInt8) (d : Nat) : x.event ⟨8, i, k, data, d⟩ = (x.ticks (RS.dr d) x.n 0).flow (RS.dr d) 200 0 := by
 show (if (8 : Int) = 0 then _ else (if (8 : Int) = 1 then _ else (if (8 : Int) = 2 then _ else (if (8 : Int) = 3 then _ else (if (8 : Int) = 4 then _ else (if (8 : Int) = 5 then _ else (if (8 : Int) = 6 then _ else (if (8 : Int) = 7 then _ else (if (8 : Int) = 8 then _ else _))))))))) = _
 rw [if_neg (by decide), if_neg (by decide), if_neg (by decide), if_neg (by decide), if_neg (by decide), if_neg (by decide), if_neg (by decide), if_neg (by decide), if_pos rfl]
theorem ev9 (x : RS.W) (kind : Int) (i k : Nat) (data : List UInt8) (d : Nat) (h0 : kind ≠ 0) (h1 : kind ≠ 1) (h2 : kind ≠ 2) (h3 : kind ≠ 3) (h4 : kind ≠ 4) (h5 : kind ≠ 5) (h6 : kind ≠ 6) (h7 : kind ≠ 7) (h8 : kind ≠ 8) : x.event ⟨kind, i, k, data, d⟩ = x := by
 simp [RS.W.event, h0, h1, h2, h3, h4, h5, h6, h7, h8]
theorem mailAt_eq {x : RS.W} {k : Nat} (h : k < x.mails.length) : x.mailAt k = x.mails[k] := by
 unfold RS.W.mailAt
 rw [List.getD_eq_getElem?_getD, List.getElem?_eq_getElem h]; rfl
theorem mails_ne {x : RS.W} {L : Nat} (hL : L = x.mails.length) (h : L ≠ 0) : x.mails ≠ [] := fun e => h (by rw [hL, e]; rfl)
theorem up_small {x : RS.W} {B k : Nat} (h : RS.Small x B) (hr : (x.r k).role = 0) : RS.Small { x with up := fun j => if j = k then true else x.up j } B := by
 obtain ⟨n1, n7, G, nd, l, I, Z⟩ := h
 refine ⟨n1, n7, G, nd, l, ⟨I.inv, I.st, I.ml, I.bs, fun j hj hd => ?_, I.cm, I.kk, I.ls⟩, ⟨Z.log, Z.term⟩⟩
 by_cases e : j = k
 · rw [e]; exact hr
 · refine I.dn j hj ?_
   have hd' : (if j = k then true else x.up j) = false := hd
   rw [if_neg e] at hd'
   exact hd'
def Hc (x : RS.W) (m : RS.Mail) : Prop := m.from_ ≠ m.to → m.x.kind = 6 → m.x.yes = true → (x.r m.to).role = 3 → (x.r m.to).term = m.x.term → x.n < 2 ∨ x.leaders m.x.term ≠ none ∨ ∀ j, j < x.n → x.up j = true → j ≠ m.to → m.x.term ≤ (x.r j).term
theorem heard_up {x : RS.W} {B : Nat} (F : RS.Full x B) (hB : B ≤ 80000) {m : RS.Mail} (hm : m ∈ x.mails) (hc : Hc x m) (hu : x.up m.to = true) (d : Nat) : RS.Full (x.took m.to (x.heard m d)) (B + 1) := by
 obtain ⟨n1, n7, G, nd, l, I, Z⟩ := F.small
 obtain ⟨G', nd', l', I', Z', _⟩ := I.mail Z (by omega) hm (ms := x.mails) (fun _ h => h) hc hu d
 obtain ⟨a, b⟩ := RS.took_fm (i := m.to) F.fm F.mf (F.heard hm d)
 exact ⟨⟨n1, n7, G', nd', l', I', Z'⟩, a, b⟩
structure Hb (x : RS.W) (B : Nat) (m : RS.Mail) (d : Nat) : Prop where
 nb : Nb (B + 3) (x.heard m d).1
 n : (x.heard m d).1.n = (x.r m.to).n
 mf : ∀ q ∈ (x.heard m d).2.send, RS.Mf (B + 3) q.2
theorem heard_nb {x : RS.W} {B : Nat} (F : RS.Full x B) (hB : B + 1 ≤ 80000) (hT : x.T ≤ 20) {m : RS.Mail} (hm : m ∈ x.mails) (hc : Hc x m) (d : Nat) : Hb x B m d := by
 obtain ⟨hf, ht, hx, _⟩ := F.mail hm
 have key : ∀ y : RS.W, RS.Full (y.took m.to (x.heard m d)) (B + 1) → y.n = x.n → y.T = x.T → Hb x B m d := fun y Fy en eT => by
  have hty : m.to < (y.took m.to (x.heard m d)).n := by show m.to < y.n; rw [en]; exact ht
  have h1 := full_nb Fy hB (by show y.T ≤ 20; rw [eT]; exact hT) hty
  have h2 := (Fy.nf hty).n
  rw [RS.W.took_same] at h1 h2
  refine ⟨h1, h2.trans (Eq.trans en (F.nf ht).n.symm), fun q hq => ((F.heard hm d).2 q hq).mono (by omega)⟩
 cases hu : x.up m.to
 · have hr : (x.r m.to).role = 0 := by obtain ⟨_, _, G, nd, l, I, Z⟩ := F.small; exact I.dn _ ht hu
   refine key { x with up := fun j => if j = m.to then true else x.up j } ?_ rfl rfl
   exact heard_up (x := { x with up := fun j => if j = m.to then true else x.up j }) (m := m) ⟨up_small F.small hr, F.fm, F.mf⟩ (by omega) hm (fun _ _ _ h => absurd (hr.symm.trans h) (by decide)) (if_pos rfl) d
 · exact key x (heard_up F (by omega) hm hc hu d) rfl rfl
theorem tick_nb {x : RS.W} {B : Nat} (F : RS.Full x B) (hB : B + 1 ≤ 80000) (hT : x.T ≤ 20) (hS : RS.Seen x) {i : Nat} (hi : i < x.n) (hu : x.up i = true) (d : Nat) : Nb (B + 3) ((x.r i).tick d).1 ∧ ((x.r i).tick d).1.n = (x.r i).n ∧ ∀ q ∈ ((x.r i).tick d).2.send, RS.Mf (B + 3) q.2 := by
 have h := (F.tickOne (by omega) hS hi d).1
 unfold RS.W.tickOne at h
 rw [if_pos hu] at h
 have h1 := full_nb h hB hT hi
 have h2 := (h.nf hi).n
 rw [RS.W.took_same] at h1 h2
 exact ⟨h1, h2.trans (F.nf hi).n.symm, fun q hq => (((F.fm i hi).tick (F.nf hi).last d).2 q hq).mono (by omega)⟩
theorem full_beat {x : RS.W} {B i : Nat} (F : RS.Full x B) (hi : i < x.n) : 0 ≤ (x.r i).beat := (F.fm i hi).beat.1
structure Ask (x : RS.W) (B : Nat) (m : RS.Mail) (d : Nat) : Prop where
 t : m.to < x.n
 f : m.from_ < x.n
 mf : RS.Mf (B + 2) m.x
 nb : Nb (B + 2) (x.r m.to)
 rn : (x.r m.to).n = x.n
 id : (x.r m.to).id = m.to
 nx : (x.r m.to).role = 3 → ∀ q, q < x.n → q ≠ m.to → 1 ≤ (x.r m.to).next q
 hb : Hb x B m d
theorem full_ask {x : RS.W} {B : Nat} (F : RS.Full x B) (hB : B + 1 ≤ 80000) (hT : x.T ≤ 20) {m : RS.Mail} (hm : m ∈ x.mails) (hc : Hc x m) (d : Nat) : Ask x B m d := by
 obtain ⟨hf, ht, hx, _⟩ := F.mail hm
 exact ⟨ht, hf, hx.mono (by omega), full_nb F (by omega) hT ht, (F.nf ht).n, (F.nf ht).id, fun h q h1 h2 => ((F.nf ht).next h q h1 h2).1, heard_nb F hB hT hm hc d⟩
theorem WdAt.flip (h : WdAt own w a p g x v) (hi : i < x.n) {b off c : Nat} (hb : own b = 12) (h4 : w.cell? ⟨a, 4, none⟩ = some (.slice (some ⟨b, off, none⟩) x.n c)) (y : Bool) :
 WdAt own (w.setCell ⟨b, off + i, none⟩ (.bool y)) a p g { x with up := fun j => if j = i then y else x.up j } v ∧ Mv (fun l => l = 12) own w own (w.setCell ⟨b, off + i, none⟩ (.bool y)) := by
 have h7 := h.n7
 have hv : some (Value.slice v.up v.un v.uc) = some (.slice (some ⟨b, off, none⟩) x.n c) := (h.cell 4).symm.trans h4
 injection hv with hv
 have m : Mv (fun l => l = 12) own w own (w.setCell ⟨b, off + i, none⟩ (.bool y)) := Mv.set (L := fun l => l = 12) (a := ⟨b, off + i, none⟩) hb _
 have hu : RoG boolR w (fun b => own b = 12) 4 (.slice v.up v.un v.uc) ((List.range x.n).map x.up) := h.u
 rw [hv] at hu
 refine ⟨⟨h.n7, fun j hj => (h.nd j hj).mv m (by have hj2 : j < x.n := hj; omega), (m.same h.lt (by rw [h.oa]; decide)).trans h.row, h.oa, h.r.lab m (by decide), ?_, h.m.lab m (by decide), h.c.lab m (by decide), h.l.same (m.same h.l.lt (by rw [h.ol]; decide)), h.ol, h.Tx, h.Nx⟩, m⟩
 show RoG boolR _ _ 4 (.slice v.up v.un v.uc) ((List.range x.n).map (fun j => if j = i then y else x.up j))
 rw [hv, ← range_set]
 exact RoG.put1 (f := fun y => .bool y) (fun _ _ _ _ => Iff.rfl) rfl hu (by rw [List.length_map, List.length_range]; exact hi) y
theorem WdAt.flagF (h : WdAt own w a p g x v) (hi : i < x.n) {b off c : Nat} (h4 : w.cell? ⟨a, 4, none⟩ = some (.slice (some ⟨b, off, none⟩) x.n c)) : w.frozen? ⟨b, off + i, none⟩ = false := by
 have h1 := h.u
 have h2 : some (Value.slice v.up v.un v.uc) = some (.slice (some ⟨b, off, none⟩) x.n c) := (h.cell 4).symm.trans h4
 injection h2 with h2
 rw [h2] at h1
 rcases h1 with ⟨e1, _⟩ | ⟨g', cap, cur, e1, hg, hh, _⟩
 · cases e1
 · injection e1 with e1 e2 e3
   injection e1 with e1
   injection e1 with e1 e4
   subst e1
   simp [World.frozen?, hh]
theorem prop_w (own : Own) (i p g : Nat) (r : RS.Rf) (w : World) (h : NdAt own w i p g r) (M : Nat) (hb : Nb M r) (hM : M ≤ 90000) (d : List UInt8) (P : Option Addr) (n c : Nat) (hd : RdB w (.slice P n c) d) (hdl : d.length ≤ 3000) :
 Calls Try.prog 56 #[.pointer (some ⟨p, 0, none⟩), .slice P n c] w fun e w' => ∃ k err, ToldP own w (fun l => l = i ∨ l = 7) i p (r.propose d).1 (r.propose d).2 k err e w' := by
 by_cases hr : r.role = 3
 · exact (prop_yes_w own i p g r w h M hb hM hr d P n c hd hdl).mono fun e w' h => ⟨_, _, h⟩
 · have e : r.propose d = (r, RS.Ou.none) := by unfold RS.Rf.propose; rw [if_pos (.inl hr)]
   rw [e]
   exact (prop_no_w own i p g r w h hr P n c).mono fun e w' h => ⟨_, _, h⟩
theorem prop_nb {x : RS.W} {B : Nat} (F : RS.Bf x B) (hB : B + 207 ≤ 80000) (hT : x.T ≤ 20) {i k : Nat} (hi : i < x.n) (hk : x.mails ≠ [] → k < x.mails.length) (hu : x.up i = true) (data : List UInt8) (d : Nat) : Nb (B + 209) ((x.r i).propose data).1 ∧ ((x.r i).propose data).1.n = (x.r i).n ∧ ∀ q ∈ ((x.r i).propose data).2.send, RS.Mf (B + 209) q.2 := by
 have h := F.event (by omega) ⟨4, i, k, data, d⟩ hi hk
 rw [ev4, if_pos hu] at h
 have h1 := full_nb h hB hT hi
 have h2 := (h.nf hi).n
 rw [RS.W.took_same] at h1 h2
 exact ⟨h1, h2.trans (F.full.nf hi).n.symm, fun q hq => (((F.full.fm i hi).propose (F.full.nf hi).last data).2 q hq).mono (by omega)⟩
def PrQ (own : Own) (w : World) (a : Nat) (p : Nat → Nat) (x : RS.W) (v : Wv) (o9 : RS.Ou) (x9 : Ov) (w6 : World) (P8 : Nat) : Prop :=
 ∃ own6 g6, WdAt own6 w6 a p g6 x v ∧ OvAt w6 (fun b => own6 b = 7) x9 o9 ∧ Bx own6 w6 P8 x9.cells 100 ∧ Mv (fun l => l ≠ 9) own w own6 w6
theorem prq_b {own9 : Own} {w5 : World} {o9 : RS.Ou} {x9 : Ov} (h : WdAt own9 w5 a p g x v) (ho : OvAt w5 (fun b => own9 b = 7) x9 o9) (hm : Mv (fun l => l ≠ 9) own w own9 w5) : PrQ own w a p x v o9 x9 (w5.alloc (.cells x9.cells 100)) w5.heap.size := by
 have m : Mv (fun _ => False) own9 w5 (ext own9 w5.heap.size 9) (w5.alloc (.cells x9.cells 100)) := Mv.alloc own9 w5 _ 9
 exact ⟨_, _, h.mv m fun l e => e.elim, (footed_ov _ _).move ho fun b hb e => ⟨(m.lab b hb).trans e, m.same hb id⟩, Bx.new own9 w5 x9.cells 100, hm.trans (m.mono fun l e => e.elim)⟩
theorem prq_a {own9 : Own} {w5 : World} {P8 : Nat} {zs : Array Value} {o9 : RS.Ou} {x9 : Ov} (h : WdAt own9 w5 a p g x v) (ho : OvAt w5 (fun b => own9 b = 7) x9 o9) (hm : Mv (fun l => l ≠ 9) own w own9 w5) (hb : Bx own9 w5 P8 zs 100) (hn : w.heap.size ≤ P8) : PrQ own w a p x v o9 x9 (w5.setRow P8 x9.cells) P8 := by
 have m : Mv (fun l => l = 9) own9 w5 own9 (w5.setRow P8 x9.cells) := Mv.row9 hb
 exact ⟨_, _, h.mv m fun l e => by omega, (footed_ov _ _).frame ho fun b e => setRow_other _ _ _ _ fun e2 => by rw [e2, hb.lab] at e; omega, ⟨setRow_heap _ _ _ _ _ _ hb.row, hb.lab⟩, hm.newRow hn _⟩
theorem ov_cells1 (x9 : Ov) : x9.cells.all (·.oneCell') = true := by simp [Ov.cells, Value.oneCell']
theorem store_b (w5 : World) (zs : Array Value) (hz : zs.size = 16) (x9 : Ov) : (storeCells ⟨w5.heap.size, 0, none⟩ x9.cells.toList 0).run Try.prog (w5.alloc (.cells zs 100)) = .ok () (w5.alloc (.cells x9.cells 100)) :=
 run_storeCells_new (P := Try.prog) w5 100 zs x9.cells (show _ = some 16 by kernel_rfl) hz (ov_cells1 x9)
theorem store_a {w5 : World} {P8 : Nat} {zs : Array Value} (h : w5.heap[P8]? = some (.cells zs 100)) (hz : zs.size = 16) (x9 : Ov) : (storeCells ⟨P8, 0, none⟩ x9.cells.toList 0).run Try.prog w5 = .ok () (w5.setRow P8 x9.cells) := by
 have h1 := run_storeCells_from (P := Try.prog) P8 100 x9.cells.toList 0 zs w5 h (by rw [hz]; rfl) (fun u hu => by have := ov_cells1 x9; rw [← Array.all_toList, List.all_eq_true] at this; exact this u hu)
 simpa using h1
theorem RoG.elemG {α : Type} {R : Rep α} {S : Foot} {e : TypeId} {u : Value} {l : List α} (h : RoG R w S e u l) (i : Nat) (hi : i < l.length) : ∃ b c cs, u = .slice (some ⟨b, 0, none⟩) l.length c ∧ b < w.heap.size ∧ w.rangeAt b (i * R.k) cs ∧ R.rel w (fun c => S c ∧ c ≠ b) l[i] cs := by
 rcases h with ⟨rfl, rfl⟩ | ⟨g, cap, cur, rfl, hg, hh, h1, h2, h3, h4⟩
 · simp at hi
 · obtain ⟨cs, q1, q2⟩ := h4.at i hi
   refine ⟨g, cap, cs, rfl, (Array.getElem?_eq_some_iff.1 hh).1, fun j u hu => ?_, q1⟩
   have h5 := q2 j u hu
   rw [cell_of_row _ _ _ _ _ _ hh]
   rw [List.getElem?_take] at h5
   split at h5
   · simpa using h5
   · cases h5
def MailW (m : RS.Mail) (S : Foot) (y : Value) (W : World) : Prop := ∃ lp ln lc dp dn dc ag, y = .agg #[.int .i64 (m.from_ : Int), .int .i64 (m.to : Int), .int .u8 (m.x.kind : Int), .int .u64 (m.x.term : Int), .int .u64 (m.x.round : Int), .int .u64 (m.x.index : Int), .int .u64 (m.x.at_ : Int), .int .u64 (m.x.commit : Int), .bool m.x.yes, .slice lp ln lc, .slice dp dn dc, .int .i64 ag] ∧ EsR W S (.slice lp ln lc) m.x.list ∧ DatA W S (.slice dp dn dc) []
theorem MailW.keeps {m : RS.Mail} {S : Foot} {y : Value} {W W' : World} (h : MailW m S y W) (hk : Keeps W W') : MailW m S y W' := by
 obtain ⟨lp, ln, lc, dp, dn, dc, ag, e, h1, h2⟩ := h; exact ⟨lp, ln, lc, dp, dn, dc, ag, e, h1.keeps hk, h2.keeps hk⟩
def RowW (m : RS.Mail) (S : Foot) (y : Value) (W : World) : Prop := ∃ N cs, y = .slice (some ⟨N, 0, none⟩) 1 1 ∧ W.heap[N]? = some (.cells cs.toArray 151) ∧ mailR.rel W S m cs
theorem RowW.keeps {m : RS.Mail} {S : Foot} {y : Value} {W W' : World} (h : RowW m S y W) (hk : Keeps W W') : RowW m S y W' := by
 obtain ⟨N, cs, h1, h2, h3⟩ := h
 exact ⟨N, cs, h1, (hk N (Array.getElem?_eq_some_iff.1 h2).1).trans h2, mailR.keeps h3 hk⟩
theorem opok_eq {P : Program} {r : Result Next} {y : Value} {W : World} {post : Value → World → Prop} (h : r = .ok (.value y) W) (hp : post y W) : RegT.OpOK P r post := by rw [h]; exact RegT.OpOK_value hp
theorem mail_load {wr W : World} {own : Own} {ms : List RS.Mail} (h : RoG mailR wr (fun b => own b = 13) 151 (.slice v.mp v.mn v.mc) ms) (hR : RM own wr v ms wr.drew W) (k : Nat) (hk : k < ms.length) {m : RS.Mail} (hm : m = ms[k]) {gb go : Nat} (hgo : go = 0) (hmp : v.mp = some ⟨gb, go, none⟩) :
 ∃ cs, W.rangeAt gb (go + k * 12) cs ∧ cs.length = 12 ∧ MailW m (fun b => (own b = 13 ∧ b < wr.heap.size) ∧ b ≠ gb) (.agg cs.toArray) W := by
 have h0 := h.mono (S' := fun b => own b = 13 ∧ b < wr.heap.size) fun b hb e => ⟨e, hb⟩
 obtain ⟨b, c, cs, e, hlt, hr, hrel⟩ := (hR.2 (h0.keeps (Keeps.refl wr).drew)).elemG k hk
 rw [← hm] at hrel
 have hb : b = gb := by injection e with e1 _ _; rw [hmp] at e1; injection e1 with e1; injection e1 with e1 _; exact e1.symm
 subst hb
 refine ⟨cs, by rw [hgo, Nat.zero_add]; exact hr, mailR.len hrel, ?_⟩
 obtain ⟨ds, ag, rfl, lv, dv, rfl, hlv, hdv⟩ := hrel
 obtain ⟨pl, cl, rfl⟩ := hlv.len_form
 obtain ⟨pd, cd, rfl, _⟩ := hdv.rd
 exact ⟨_, _, _, _, _, _, ag, rfl, hlv, hdv⟩
theorem mail_append2 {wr W : World} {own : Own} {ms : List RS.Mail} {m : RS.Mail} (h : RoG mailR wr (fun b => own b = 13) 151 (.slice v.mp v.mn v.mc) ms) (hl : ms.length ≤ 10000) (hR : RM own wr v ms wr.drew W) {gb go : Nat} (hmp : v.mp = some ⟨gb, go, none⟩) {N : Nat} {cs : List Value} (hN : W.heap[N]? = some (.cells cs.toArray 151)) (hrel : mailR.rel W (fun b => (own b = 13 ∧ b < wr.heap.size) ∧ b ≠ gb) m cs) :
 ∃ v' w', (Builtin.append_ #[145, 145] 145 #[.slice v.mp v.mn v.mc, .slice (some ⟨N, 0, none⟩) 1 1]).run Try.prog W = .ok v' w' ∧ RoG mailR w' (fun b => ext own wr.heap.size 13 b = 13) 151 v' (ms ++ [m]) ∧ RM own wr v ms W w' := by
 have h0 := h.mono (S' := fun b => own b = 13 ∧ b < wr.heap.size) fun b hb e => ⟨e, hb⟩
 have hsz : wr.heap.size ≤ W.heap.size := hR.1.size
 obtain ⟨v', w', hr, ho', hg, hnew, hold⟩ := run_append_rog (R := mailR) (P := Try.prog) (t := 145) (ty := 145) (c := 1) (S' := fun b => ext own wr.heap.size 13 b = 13) helM (hR.2 (h0.keeps (Keeps.refl wr).drew))
  (RoC.cons (mailR.mono hrel fun b _ hb => ⟨(ext_lt hb.1.2).trans hb.1.1, fun e => hb.2 (by rw [hmp] at e; injection e with e; exact e.symm)⟩) .nil) (.inr ⟨⟨N, 0, none⟩, rfl, fun j u hu => row_cells hN j u (by simpa using hu)⟩)
  (by unfold maxLen; simp; omega) (by simp; omega) (fun b hb => (ext_lt hb.2).trans hb.1) (ext_ge hsz)
 exact ⟨v', w', hr, ho', Touch.of_grownBy hg fun b e => .inl e, fun _ => hold⟩
theorem room_len {ms : List RS.Mail} (h : ms.length ≤ 600) (l : List RS.Mail) : (RS.room ms l).length ≤ 600 := by
 unfold RS.room; rw [List.length_append, List.length_take]; omega
theorem took_len {x : RS.W} (h : x.mails.length ≤ 600) (i : Nat) (res : RS.Rf × RS.Ou) : (x.took i res).mails.length ≤ 600 := by
 rw [RS.W.took_mails]; exact room_len (room_len h _) _
theorem tick_len {x : RS.W} (h : x.mails.length ≤ 600) (i d : Nat) : (x.tickOne i d).n = x.n ∧ (x.tickOne i d).T = x.T ∧ (x.tickOne i d).mails.length ≤ 600 := by
 unfold RS.W.tickOne; split
 · exact ⟨rfl, rfl, took_len h _ _⟩
 · exact ⟨rfl, rfl, h⟩
theorem arrive_len {x : RS.W} (h : x.mails.length ≤ 600) (m : RS.Mail) (d : Nat) : (x.arrive m d).n = x.n ∧ (x.arrive m d).T = x.T ∧ (x.arrive m d).mails.length ≤ 600 := by
 unfold RS.W.arrive; split
 · exact ⟨rfl, rfl, took_len h _ _⟩
 · exact ⟨rfl, rfl, h⟩
theorem tick_len2 {x : RS.W} (h : x.mails.length ≤ 600) (i : Nat) (r9 : RS.Rf) (o9 : RS.Ou) : (x.set i r9).mails.length ≤ 600 := h
set_option maxRecDepth 100000 in
set_option maxHeartbeats 400000000 in
theorem happens_all_w (own : Own) (a : Nat) (p g : Nat → Nat) (x : RS.W) (v : Wv) (w : World) (h : WdAt own w a p g x v) (kind : Int) (node n : Int) (dp : Option Addr) (dn dc : Nat) (data : List UInt8) (hdt : RdB w (.slice dp dn dc) data) (hdl : data.length ≤ 1000) (draw : Nat) (hd : draw < 2 ^ 64) (B : Nat) (F : RS.Bf x B) (hB : B + 210 ≤ 80000) (hT : x.T ≤ 20) (i : Nat) (hi : (i : Int) = node % 18446744073709551616 % (x.n : Int)) (k : Nat) (hk : x.mails ≠ [] → (k : Int) = n % 18446744073709551616 % (x.mails.length : Int))
 (hm6 : x.mails.length ≤ 600) : Calls Try.prog 52 #[.pointer (some ⟨a, 0, none⟩), .agg #[.int .i64 kind, .int .i64 node, .int .i64 n, .slice dp dn dc, .int .u64 (draw : Int)]] w fun e w' => e = .returned (.bool true) ∧ Wev own w a (x.event ⟨kind, i, k, data, draw⟩) w' := by
 have hn7 := h.n7
 have hin : i < x.n := by have h1 := F.full.small.1; have := Int.emod_lt_of_pos (node % 18446744073709551616) (show (0 : Int) < (x.n : Int) by omega); omega
 have hn1 : 1 ≤ x.n := by omega
 obtain ⟨w1, hw1⟩ : ∃ w1, w.alloc (.cells #[.int .i64 kind, .int .i64 node, .int .i64 n, .slice dp dn dc, .int .u64 (draw : Int)] 82) = w1 := ⟨_, rfl⟩
 have HX := zh (Bx.new own w #[.int .i64 kind, .int .i64 node, .int .i64 n, .slice dp dn dc, .int .u64 (draw : Int)] 82)
 have m1 : Mv (fun _ => False) own w (ext own w.heap.size 9) (w.alloc (.cells #[.int .i64 kind, .int .i64 node, .int .i64 n, .slice dp dn dc, .int .u64 (draw : Int)] 82)) := Mv.alloc own w _ 9
 have HD := zh (h.mv m1 fun l e => e.elim)
 have HM := zh (m1.mono (L' := fun l => l ≠ 9) fun l e => e.elim)
 have HR := zh (hdt.keeps fun b hb => m1.same hb id)
 rw [hw1] at HX HD HM HR
 have HW := zh hw1
 have HF := zh F
 have Hin := zh hin
 clear h hw1 m1 F hdt
 generalize ext own w.heap.size 9 = own1 at *
 obtain ⟨rb, ro, rc, hrb, hrlt, ha3, hpi⟩ := HD.out.ptr (i := 0) (by omega)
 have k1 : w1.cell? ⟨w.heap.size, 1, none⟩ = some (.int .i64 node) := HX.out.c 1
 have c1 : IntKind.u64.wrap (x.n : Int) = (x.n : Int) := IntWalk.u64_in _ (by omega)
 have c2 : IntKind.u64.wrap node = node % 18446744073709551616 := IntKind.wrap_u64 _
 have hz : ((x.n : Int) == 0) = false := by simp; omega
 clear hpi hrb hrlt
 go_enter Try.func52, Try.ntmps52
 go_upto_region 1 with (fail)
 rw [HW.out]
 go_quiet (fail)
 rw [← hi]
 have m2 : Mv (fun _ => False) own1 w1 own1 (w1.drewN nq) := Mv.drewN own1 w1 nq
 have HX2 := zh (HX.out.mv m2 id)
 have HD2 := zh (HD.out.mv m2 fun l e => e.elim)
 have HM2 := zh (HM.out.trans (m2.mono fun l e => e.elim))
 have HR2 := zh (HR.out.keeps fun b hb => m2.same hb id)
 clear m2 HX HD HM HR HW ha3 k1 c1 c2 hz hi
 generalize w1.drewN nq = w2 at *
 have hmn : v.mn = x.mails.length := by obtain ⟨_, _, e⟩ := HD2.out.m.form; injection e
 obtain ⟨L, hL⟩ : ∃ L, L = x.mails.length := ⟨_, rfl⟩
 have ha5 : w2.cell? ⟨a, 5, none⟩ = some (.slice v.mp L v.mc) := (HD2.out.cell 5).trans (by rw [hL, ← hmn]; rfl)
 rw [← hL] at hk hm6
 have Hmn := zh hmn
 have HL := zh hL
 have Hk := zh hk
 clear hmn hL hk
 go_upto_if 28 with (fail)
 go_cut [6] from 12 to 39 (fun t wx => Hid (∃ k9 : Nat, t = .int .i64 (k9 : Int) ∧ (x.mails ≠ [] → k9 = k) ∧ Mv (fun _ => False) own1 w2 own1 wx))
 case first =>
  by_cases c : L = 0
  · have d1 : decide ((0 : Int) < (L : Int)) = false := by simp; omega
    have d2 : decide (0 < L) = false := by simp; omega
    go_wp2
    go_meet
    exact zh ⟨0, rfl, fun h => (h (List.eq_nil_of_length_eq_zero (by rw [← HL.out]; exact c))).elim, Mv.refl _ _ _⟩
  · have d1 : decide ((0 : Int) < (L : Int)) = true := by simp; omega
    have d2 : decide (0 < L) = true := by simp; omega
    have k2 : w2.cell? ⟨w.heap.size, 2, none⟩ = some (.int .i64 n) := HX2.out.c 2
    have c1 : IntKind.u64.wrap (L : Int) = (L : Int) := IntWalk.u64_in _ (by omega)
    have c2 : IntKind.u64.wrap n = n % 18446744073709551616 := IntKind.wrap_u64 _
    have hz : ((L : Int) == 0) = false := by simp; omega
    go_upto_region 4 with (fail)
    go_quiet (fail)
    go_wp2
    go_meet
    have h9 := Hk.out (fun e => c (by rw [HL.out, e]; rfl))
    have hkL : k < L := by have := Int.emod_lt_of_pos (n % 18446744073709551616) (show (0 : Int) < (L : Int) by omega); omega
    exact zh ⟨k, by rw [← h9]; exact congrArg (Value.int IntKind.i64) (IntWalk.wrap64_in _ (by omega)), fun _ => rfl, Mv.drewN own1 w2 nq⟩
 case rest =>
  obtain ⟨k9, rfl, hk9, m3⟩ := hcut.out
  have HX := zh (HX2.out.mv m3 id)
  have HD := zh (HD2.out.mv m3 fun l e => e.elim)
  have HM := zh (HM2.out.trans (m3.mono fun l e => e.elim))
  have HR := zh (HR2.out.keeps fun b hb => m3.same hb id)
  have Hk9 := zh hk9
  clear m3 HX2 HD2 HM2 HR2 ha5 hcut hk9
  have kk : wc.cell? ⟨w.heap.size, 0, none⟩ = some (.int .i64 kind) := HX.out.c 0
  obtain ⟨rb, ro, rc, hrb, hrlt, ha3, hpi⟩ := HD.out.ptr Hin.out
  obtain ⟨ub, uo, uc, hub, hult, ha4, hui⟩ := HD.out.flag Hin.out
  have ha5 : wc.cell? ⟨a, 5, none⟩ = some (.slice v.mp L v.mc) := (HD.out.cell 5).trans (by rw [HL.out, ← Hmn.out]; rfl)
  have hi0 : (0 : Int) ≤ (i : Int) := by omega
  have hin' : (i : Int) < (x.n : Int) := by omega
  have hB7 : B + 207 ≤ 80000 := by omega
  by_cases q0 : kind = 0
  · subst q0
    cases hup : x.up i
    · rw [hup] at hui
      have e9 : x.event ⟨0, i, k, data, draw⟩ = x := by rw [ev0]; exact if_neg (by rw [hup]; decide)
      go_upto_region 11 with (fail)
      go_quiet (fail)
      have m4 : Mv (fun _ => False) own1 wc own1 (wc.drewN nq) := Mv.drewN own1 wc nq
      have HX4 := zh (HX.out.mv m4 id)
      have HD4 := zh (HD.out.mv m4 fun l e => e.elim)
      have HM4 := zh (HM.out.trans (m4.mono fun l e => e.elim))
      have HR4 := zh (HR.out.keeps fun b hb => m4.same hb id)
      have kk : (wc.drewN nq).cell? ⟨w.heap.size, 0, none⟩ = some (.int .i64 0) := HX4.out.c 0
      clear m4 HX HD HM HR ha3 ha4 ha5 hpi hui
      generalize wc.drewN nq = w4 at *
      go_wp2
      go_ret
      rw [e9]
      exact ⟨rfl, _, _, _, _, HD4.out, HM4.out⟩
    · rw [hup] at hui
      have kd : wc.cell? ⟨w.heap.size, 4, none⟩ = some (.int .u64 (draw : Int)) := HX.out.c 4
      have Htn := zh (tick_nb HF.out.full (by omega) hT HF.out.bd.seen Hin.out hup draw)
      have hb0 := full_nb HF.out.full (by omega) hT Hin.out
      have hbt := full_beat HF.out.full Hin.out
      have hN : w.heap.size < wc.heap.size ∧ ¬ (own1 w.heap.size = i ∨ own1 w.heap.size = 7) := ⟨HX.out.lt, by rw [HX.out.lab]; omega⟩
      have ha : a < wc.heap.size ∧ ¬ (own1 a = i ∨ own1 a = 7) := ⟨HD.out.lt, by rw [HD.out.oa]; omega⟩
      have hr : rb < wc.heap.size ∧ ¬ (own1 rb = i ∨ own1 rb = 7) := ⟨hrlt, by rw [hrb]; omega⟩
      have Hlt := zh (And.intro hN (And.intro ha hr))
      have H911 := zh (And.intro HX.out.lab hrb)
      have e9 : x.event ⟨0, i, k, data, draw⟩ = (x.set i ((x.r i).tick draw).1).sent i ((x.r i).tick draw).2 := by rw [ev0]; exact if_pos hup
      have E9 := zh e9
      have Hb0 := zh (And.intro hb0 hbt)
      clear e9 hN ha hr hb0 hbt hrb hrlt hub hult ha5 hup HR
      go_upto_region 6 with (fail)
      clear ha4 hui
      have m6 : Mv (fun _ => False) own1 wc own1 wc.drew := Mv.drew _ own1 wc
      have HD6 := zh (HD.out.mv m6 fun l e => e.elim)
      have HM6 := zh (HM.out.trans (m6.mono fun l e => e.elim))
      have HH := zh (tick_w own1 i (p i) (g i) (x.r i) wc.drew (HD6.out.nd i Hin.out) (B + 2) Hb0.out.1 (by omega) Hb0.out.2 draw hd)
      clear m6 HD HM kk
      generalize ((x.r i).tick draw).1 = r9 at *
      generalize ((x.r i).tick draw).2 = o9 at *
      go_region_held3 (fun W => W.cell? ⟨w.heap.size, 4, none⟩ = some (.int .u64 (draw : Int)) ∧ W.cell? ⟨a, 3, none⟩ = some (.slice (some ⟨rb, ro, none⟩) x.n rc) ∧ W.cell? ⟨rb, ro + i, none⟩ = some (.pointer (some ⟨p i, 0, none⟩))) (go_keep) (first
       | (go_at_call 58; refine (HH.out).mono ?_; rintro e w4 ⟨x9, own9, g9, rfl, hn9, ho9, hm9⟩; have HN9 := zh (HD6.out.node hm9 Hin.out hn9 Htn.out.2.1); have HM9 := zh (HM6.out.trans (hm9.mono fun l e => by omega)); have Hse := zh (sent_w own9 a p _ (x.set i r9) v w4 HN9.out i Hin.out (B + 3) (show Nb (B + 3) (if i = i then r9 else x.r i) by rw [if_pos rfl]; exact Htn.out.1) (by omega) x9 o9 ho9 Htn.out.2.2 (by show x.mails.length ≤ 600; rw [← HL.out]; exact hm6)); have hsm : ∀ b, b < wc.heap.size ∧ ¬ (own1 b = i ∨ own1 b = 7) → ∀ k, w4.cell? ⟨b, k, none⟩ = wc.cell? ⟨b, k, none⟩ := fun b hb k => World.cell?_of_block (a := ⟨b, k, none⟩) (hm9.same hb.1 hb.2); have hN := Hlt.out.1; have ha := Hlt.out.2.1; have hr := Hlt.out.2.2; have y0 : w4.cell? ⟨w.heap.size, 4, none⟩ = some (.int .u64 (draw : Int)) := (hsm w.heap.size hN _).trans kd; have y1 : w4.cell? ⟨a, 3, none⟩ = some (.slice (some ⟨rb, ro, none⟩) x.n rc) := (hsm a ha _).trans ha3; have y2 : w4.cell? ⟨rb, ro + i, none⟩ = some (.pointer (some ⟨p i, 0, none⟩)) := (hsm rb hr _).trans hpi; have Hsz := zh (show w.heap.size < w4.heap.size ∧ rb < w4.heap.size ∧ own9 w.heap.size = 9 ∧ own9 rb = 11 from ⟨Nat.lt_of_lt_of_le hN.1 hm9.t.size, Nat.lt_of_lt_of_le hr.1 hm9.t.size, (hm9.lab _ hN.1).trans H911.out.1, (hm9.lab _ hr.1).trans H911.out.2⟩); clear hn9 ho9 hm9 hsm hN ha hr)
       | (go_at_call 98; refine (Hse.out).mono ?_; rintro e w5 ⟨⟨v5, rfl⟩, own5, v6, h5, m5, k5⟩; have H5 := zh h5; have HM5 := zh (HM9.out.trans (m5.mono fun l e => by omega)); have hN2 := Hlt.out.1.1; have hr2 := Hlt.out.2.2.1; have sN : ∀ k, w5.cell? ⟨w.heap.size, k, none⟩ = w4.cell? ⟨w.heap.size, k, none⟩ := fun k => World.cell?_of_block (a := ⟨w.heap.size, k, none⟩) (m5.same Hsz.out.1 (by rw [Hsz.out.2.2.1]; decide)); have z0 : w5.cell? ⟨w.heap.size, 4, none⟩ = some (.int .u64 (draw : Int)) := (sN _).trans y0; have z1 : w5.cell? ⟨a, 3, none⟩ = some (.slice (some ⟨rb, ro, none⟩) x.n rc) := (k5 3 (by decide)).trans y1; have z2 : w5.cell? ⟨rb, ro + i, none⟩ = some (.pointer (some ⟨p i, 0, none⟩)) := (World.cell?_of_block (a := ⟨rb, ro + i, none⟩) (m5.same Hsz.out.2.1 (by rw [Hsz.out.2.2.2]; decide))).trans y2; clear h5 m5 k5 hN2 hr2 sN))
      rename_i hHeld
      clear hHeld
      go_wp2
      go_ret
      rw [E9.out]
      exact ⟨rfl, _, _, _, _, H5.out, HM5.out⟩
  by_cases q1 : kind = 1
  · subst q1
    by_cases c : L = 0
    · have d1 : decide ((0 : Int) < (L : Int)) = false := by simp; omega
      have d2 : decide (0 < L) = false := by simp; omega
      have hnil : x.mails = [] := List.eq_nil_of_length_eq_zero (by rw [← HL.out]; exact c)
      have e9 : x.event ⟨1, i, k, data, draw⟩ = x := by rw [ev1, if_pos hnil]
      go_upto_region 11 with (fail)
      go_quiet (fail)
      have m4 : Mv (fun _ => False) own1 wc own1 (wc.drewN nq) := Mv.drewN own1 wc nq
      have HX4 := zh (HX.out.mv m4 id)
      have HD4 := zh (HD.out.mv m4 fun l e => e.elim)
      have HM4 := zh (HM.out.trans (m4.mono fun l e => e.elim))
      have HR4 := zh (HR.out.keeps fun b hb => m4.same hb id)
      have kk : (wc.drewN nq).cell? ⟨w.heap.size, 0, none⟩ = some (.int .i64 1) := HX4.out.c 0
      clear m4 HX HD HM HR ha3 ha4 ha5 hpi hui
      generalize wc.drewN nq = w4 at *
      go_wp2
      go_ret
      rw [e9]
      exact ⟨rfl, _, _, _, _, HD4.out, HM4.out⟩
    · have d1 : decide ((0 : Int) < (L : Int)) = true := by simp; omega
      have d2 : decide (0 < L) = true := by simp; omega
      have hne : x.mails ≠ [] := mails_ne HL.out c
      obtain rfl : k9 = k := Hk9.out hne
      have hkL : k9 < x.mails.length := by have h9 := Hk.out hne; have := Int.emod_lt_of_pos (n % 18446744073709551616) (show (0 : Int) < (L : Int) by omega); rw [← HL.out]; omega
      obtain ⟨m, hm⟩ : ∃ m, m = x.mails[k9] := ⟨_, rfl⟩
      have hin2 : m ∈ x.mails := by rw [hm]; exact List.getElem_mem _
      have Hq := zh (full_ask HF.out.full (by omega) hT hin2 (fun _ _ _ hr he => .inr (.inl (by rw [← he]; exact (HF.out.saw _ (HF.out.full.mail hin2).2.1).2 hr))) draw)
      have Htk := zh (take_w own1 a p g x v wc.drew (HD.out.mv (Mv.drew (fun _ => False) own1 wc) fun l e => e.elim) k9 hkL (by rw [← HL.out]; exact hm6) m hm)
      have Hlen := zh (show (x.mails.eraseIdx k9).length ≤ 600 by have := HL.out; have := List.length_eraseIdx_le x.mails k9; omega)
      have e9 : x.event ⟨1, i, k9, data, draw⟩ = (x.with_ (x.mails.eraseIdx k9)).arrive m draw := by rw [ev1, if_neg hne, mailAt_eq hkL, hm]
      have E9 := zh e9
      have kd : wc.cell? ⟨w.heap.size, 4, none⟩ = some (.int .u64 (draw : Int)) := HX.out.c 4
      have Hlt := zh (And.intro HX.out.lt HX.out.lab)
      have HM6 := zh (HM.out.trans ((Mv.drew (fun _ => False) own1 wc).mono fun l e => e.elim))
      have Hm := zh hm
      clear HR ha3 ha4 hpi hui HX HD HM e9 hin2 hrb hrlt hub hult hm
      go_upto_region 8 with (fail)
      clear kk ha5
      go_region_held3 (fun W => W.cell? ⟨w.heap.size, 4, none⟩ = some (.int .u64 (draw : Int))) (go_keep) (first
       | (go_at_call 100; refine (Htk.out).mono ?_; rintro e w4 ⟨pl, nl, cl, pd, nd, cd, ag, own4, v4, rfl, h4, e4, t4, m4⟩; have HM4 := zh (HM6.out.trans (m4.mono fun l e => by omega)); have y4 : w4.cell? ⟨w.heap.size, 4, none⟩ = some (.int .u64 (draw : Int)) := (World.cell?_of_block (a := ⟨w.heap.size, 4, none⟩) (m4.same Hlt.out.1 (by rw [Hlt.out.2]; decide))).trans kd; have Har := zh (arrive_w own4 a p g (x.with_ (x.mails.eraseIdx k9)) v4 w4 h4 m pl pd nl cl nd cd ag e4 t4 (B + 2) (by omega) Hq.out.t Hq.out.f Hq.out.mf Hq.out.nb Hq.out.rn Hq.out.id Hq.out.nx draw hd (B + 3) (by omega) Hq.out.hb.nb Hq.out.hb.n Hq.out.hb.mf Hlen.out); have Hl4 := zh (show w.heap.size < w4.heap.size ∧ own4 w.heap.size = 9 from ⟨Nat.lt_of_lt_of_le Hlt.out.1 m4.t.size, (m4.lab _ Hlt.out.1).trans Hlt.out.2⟩); clear h4 e4 t4 m4)
       | (go_at_call 99; refine (Har.out).mono ?_; rintro e w5 ⟨⟨v5, rfl⟩, own5, g5, v6, h5, m5⟩; have H5 := zh h5; have HM5 := zh (HM4.out.trans m5); have z4 : w5.cell? ⟨w.heap.size, 4, none⟩ = some (.int .u64 (draw : Int)) := (World.cell?_of_block (a := ⟨w.heap.size, 4, none⟩) (m5.same Hl4.out.1 (by rw [Hl4.out.2]; decide))).trans y4; clear h5 m5))
      rename_i hHeld
      clear hHeld
      go_wp2
      go_ret
      rw [E9.out]
      exact ⟨rfl, _, _, _, _, H5.out, HM5.out⟩
  by_cases q2 : kind = 2
  · subst q2
    by_cases c : L = 0
    · have d1 : decide ((0 : Int) < (L : Int)) = false := by simp; omega
      have d2 : decide (0 < L) = false := by simp; omega
      have hnil : x.mails = [] := List.eq_nil_of_length_eq_zero (by rw [← HL.out]; exact c)
      have e9 : x.event ⟨2, i, k, data, draw⟩ = x := by rw [ev2, if_pos hnil]
      go_upto_region 11 with (fail)
      go_quiet (fail)
      have m4 : Mv (fun _ => False) own1 wc own1 (wc.drewN nq) := Mv.drewN own1 wc nq
      have HX4 := zh (HX.out.mv m4 id)
      have HD4 := zh (HD.out.mv m4 fun l e => e.elim)
      have HM4 := zh (HM.out.trans (m4.mono fun l e => e.elim))
      have HR4 := zh (HR.out.keeps fun b hb => m4.same hb id)
      have kk : (wc.drewN nq).cell? ⟨w.heap.size, 0, none⟩ = some (.int .i64 2) := HX4.out.c 0
      clear m4 HX HD HM HR ha3 ha4 ha5 hpi hui
      generalize wc.drewN nq = w4 at *
      go_wp2
      go_ret
      rw [e9]
      exact ⟨rfl, _, _, _, _, HD4.out, HM4.out⟩
    · have d1 : decide ((0 : Int) < (L : Int)) = true := by simp; omega
      have d2 : decide (0 < L) = true := by simp; omega
      have hne : x.mails ≠ [] := mails_ne HL.out c
      obtain rfl : k9 = k := Hk9.out hne
      have hkL : k9 < x.mails.length := by have h9 := Hk.out hne; have := Int.emod_lt_of_pos (n % 18446744073709551616) (show (0 : Int) < (L : Int) by omega); rw [← HL.out]; omega
      have Htk := zh (take_w own1 a p g x v wc HD.out k9 hkL (by rw [← HL.out]; exact hm6) _ rfl)
      clear HR ha3 ha4 hpi hui
      go_wp2_with (go_at_call 100; refine (Htk.out).mono ?_; rintro e w4 ⟨pl, nl, cl, pd, nd, cd, ag, own4, v4, rfl, h4, e4, t4, m4⟩; have H4 := zh h4; have HM4 := zh (HM.out.trans (m4.mono fun l e => by omega)); clear h4 e4 t4 m4)
      go_ret
      rw [ev2, if_neg hne]
      exact ⟨rfl, _, _, _, _, H4.out, HM4.out⟩
  by_cases q3 : kind = 3
  · subst q3
    by_cases c : L = 0
    · have d1 : decide ((0 : Int) < (L : Int)) = false := by simp; omega
      have d2 : decide (0 < L) = false := by simp; omega
      have hnil : x.mails = [] := List.eq_nil_of_length_eq_zero (by rw [← HL.out]; exact c)
      have e9 : x.event ⟨3, i, k, data, draw⟩ = x := by rw [ev3, if_neg (fun h => h.1 hnil)]
      have E9 := zh e9
      clear e9
      go_upto_region 11 with (fail)
      go_quiet (fail)
      have m4 : Mv (fun _ => False) own1 wc own1 (wc.drewN nq) := Mv.drewN own1 wc nq
      have HX4 := zh (HX.out.mv m4 id)
      have HD4 := zh (HD.out.mv m4 fun l e => e.elim)
      have HM4 := zh (HM.out.trans (m4.mono fun l e => e.elim))
      have HR4 := zh (HR.out.keeps fun b hb => m4.same hb id)
      have kk : (wc.drewN nq).cell? ⟨w.heap.size, 0, none⟩ = some (.int .i64 3) := HX4.out.c 0
      clear m4 HX HD HM HR ha3 ha4 ha5 hpi hui
      generalize wc.drewN nq = w4 at *
      go_wp2
      go_ret
      rw [E9.out]
      exact ⟨rfl, _, _, _, _, HD4.out, HM4.out⟩
    · have d1 : decide ((0 : Int) < (L : Int)) = true := by simp; omega
      have d2 : decide (0 < L) = true := by simp; omega
      have hne : x.mails ≠ [] := mails_ne HL.out c
      obtain rfl : k9 = k := Hk9.out hne
      have hkL : k9 < x.mails.length := by have h9 := Hk.out hne; have := Int.emod_lt_of_pos (n % 18446744073709551616) (show (0 : Int) < (L : Int) by omega); rw [← HL.out]; omega
      have ha8 : wc.cell? ⟨a, 8, none⟩ = some (.int .i64 600) := HD.out.cell 8
      by_cases c6 : L < 600
      · have d3 : decide ((L : Int) < 600) = true := by simp; omega
        have d4 : decide (L < 600) = true := by simp; omega
        go_upto_region 11 with (fail)
        go_quiet (fail)
        have m4 : Mv (fun _ => False) own1 wc own1 (wc.drewN nq) := Mv.drewN own1 wc nq
        have HX4 := zh (HX.out.mv m4 id)
        have HD4 := zh (HD.out.mv m4 fun l e => e.elim)
        have HM4 := zh (HM.out.trans (m4.mono fun l e => e.elim))
        have HR4 := zh (HR.out.keeps fun b hb => m4.same hb id)
        have kk : (wc.drewN nq).cell? ⟨w.heap.size, 0, none⟩ = some (.int .i64 3) := HX4.out.c 0
        clear m4 HX HD HM HR ha3 ha4 ha5 hpi hui
        generalize wc.drewN nq = w4 at *
        go_upto_region 12 with (fail)
        clear kk d1 d2 d3 d4 ha8
        obtain ⟨m, hm⟩ : ∃ m, m = x.mails[k9] := ⟨_, rfl⟩
        obtain ⟨gb, cg, csg, hsg, hz1, hz2, hz3⟩ := HD4.out.m.elemG k9 hkL
        obtain ⟨go, hgo⟩ : ∃ z : Nat, z = 0 := ⟨_, rfl⟩
        have Hmp := zh (show v.mp = some ⟨gb, go, none⟩ by rw [hgo]; injection hsg)
        have Hgo := zh hgo
        have Hm := zh hm
        have HkL := zh hkL
        have e9 : x.event ⟨3, i, k9, data, draw⟩ = x.with_ (x.mails ++ [m]) := by rw [ev3, if_pos ⟨hne, by rw [← HL.out]; omega⟩, mailAt_eq hkL, hm]
        have E9 := zh e9
        have Ha5 := zh (fun (W : World) (hR : RM own1 w4 v x.mails w4.drew W) => (show W.cell? ⟨a, 5, none⟩ = some (.slice v.mp v.mn v.mc) from (World.cell?_of_block (a := ⟨a, 5, none⟩) (RM.same HD4.out.m hR HD4.out.lt (by rw [HD4.out.oa]; decide))).trans (HD4.out.cell 5)))
        have hk0 : (0 : Int) ≤ (k9 : Int) := by omega
        have hki : (k9 : Int) < (v.mn : Int) := by rw [Hmn.out]; omega
        have Hx4 := zh HX4
        clear hm hgo hsg hz1 hz2 hz3 e9 HR4 HX4
        apply RegT.wp_region_T rfl 281 16 rfl (by kernel_rfl) (RM own1 w4 v x.mails) (RegG.refl _ _ _ _) (RegG.trans _ _ _ _)
        ·
         iterate 4
          apply RegT.T_pure rfl rfl rfl
          · intro W hR; clear hR; go_simp; rfl
          simp only [List.set_cons_succ, List.set_cons_zero, Nat.reduceAdd]
         apply RegT.T_pure (v := .slice v.mp v.mn v.mc) rfl rfl rfl
         · intro W hR
           have hc := Ha5.out W hR
           clear hR
           go_simp
         simp only [List.set_cons_succ, List.set_cons_zero, Nat.reduceAdd]
         iterate 3
          apply RegT.T_pure rfl rfl rfl
          · intro W hR; clear hR; go_simp; rfl
          simp only [List.set_cons_succ, List.set_cons_zero, Nat.reduceAdd]
         apply RegT.T_pure (v := .slice (some ⟨gb, go, none⟩) v.mn v.mc) rfl rfl rfl
         · intro W hR
           have hc := (Ha5.out W hR).trans (by rw [Hmp.out])
           clear hR
           go_simp
         simp only [List.set_cons_succ, List.set_cons_zero, Nat.reduceAdd]
         iterate 2
          apply RegT.T_pure rfl rfl rfl
          · intro W hR; clear hR; go_simp; rfl
          simp only [List.set_cons_succ, List.set_cons_zero, Nat.reduceAdd]
         apply RegT.T_predC rfl rfl rfl 12 (MailW m (fun b => (own1 b = 13 ∧ b < w4.heap.size) ∧ b ≠ gb)) (RegG.grow _ _ _ _) (fun y x z hR h => h.keeps hR.block)
         · intro W hR hf0
           obtain ⟨cs, hr, hl, hmw⟩ := mail_load HD4.out.m hR k9 HkL.out Hm.out Hgo.out Hmp.out
           exact opok_eq (load_mid 151 (.tmp 134) rfl rfl hr Try.underlying151 rfl (show _ = some cs.length by rw [hl]; kernel_rfl)) ⟨hmw, Below.refl _ _⟩
         intro v135
         simp only [List.set_cons_succ, List.set_cons_zero, Nat.reduceAdd]
         apply RegT.T_predC rfl rfl rfl 13 (RowW m (fun b => (own1 b = 13 ∧ b < w4.heap.size) ∧ b ≠ gb)) (RegG.grow _ _ _ _) (fun y x z hR h => h.keeps hR.block)
         · intro W hR hf0
           obtain ⟨lp, ln, lc, dp, dn, dc, ag, rfl, h1, h2⟩ := (show MailW m (fun b => (own1 b = 13 ∧ b < w4.heap.size) ∧ b ≠ gb) v135 W from hf0 _ (.head _) (by kernel_rfl) (.inr rfl))
           have Hh := zh (And.intro h1 h2)
           clear hR hf0 h1 h2
           go_simp
           exact RegT.OpOK_value ⟨⟨_, _, rfl, heap_alloc_new W _, mailR.keeps (w := W) ⟨_, _, rfl, _, _, rfl, Hh.out.1, Hh.out.2⟩ ((Keeps.refl W).alloc _)⟩, (Below.refl _ _).alloc (Nat.le_refl _) _⟩
         intro v136
         simp only [List.set_cons_succ, List.set_cons_zero, Nat.reduceAdd]
         apply RegT.T_write rfl rfl rfl none (fun y W => RoG mailR W (fun b => ext own1 w4.heap.size 13 b = 13) 151 y (x.mails ++ [m])) (fun y x z hR h => h.keeps hR.block)
         · intro W hR hf0
           obtain ⟨N2, cs, rfl, hN2, hrel⟩ := (show RowW m (fun b => (own1 b = 13 ∧ b < w4.heap.size) ∧ b ≠ gb) v136 W from hf0 _ (.head _) (by kernel_rfl) (.inr rfl))
           obtain ⟨v', w', hr, ho', hRR⟩ := mail_append2 HD4.out.m (by rw [← HL.out]; omega) hR Hmp.out hN2 hrel
           exact append_ok (.tmp 128) (.tmp 136) rfl rfl rfl hr ⟨ho', hRR⟩
         intro v137
         simp only [List.set_cons_succ, List.set_cons_zero, Nat.reduceAdd]
         iterate 2
          apply RegT.T_pure rfl rfl rfl
          · intro W hR; clear hR; go_simp; rfl
          simp only [List.set_cons_succ, List.set_cons_zero, Nat.reduceAdd]
         refine RegT.T_tail (fun W hR hf0 => ?_)
         have hy : RoG mailR W (fun b => ext own1 w4.heap.size 13 b = 13) 151 v137 (x.mails ++ [m]) := hf0 _ (.head _) (.inl rfl)
         obtain ⟨p8, c8, rfl⟩ := hy.form
         generalize hn8 : (x.mails ++ [m]).length = n8 at *
         have hc5 := Ha5.out W hR
         have hf5 : W.frozen? ⟨a, 5, none⟩ = false := by have h1 := (RM.same HD4.out.m hR HD4.out.lt (by rw [HD4.out.oa]; decide)).trans HD4.out.row; simp [World.frozen?, h1]
         obtain ⟨hD5, m5⟩ := HD4.out.mails (RM.mv HD4.out.m hR) hy
         have HD5 := zh hD5
         have HM5 := zh (HM4.out.trans (m5.mono fun l e => by omega))
         clear hR hf0 hy hn8 hD5 m5
         simp only [List.drop_succ_cons, List.drop_zero]
         go_wp2
         go_ret
         rw [E9.out]
         exact ⟨rfl, _, _, _, _, HD5.out, HM5.out⟩
        · rfl
        · kernel_rfl
      · have d3 : decide ((L : Int) < 600) = false := by simp; omega
        have d4 : decide (L < 600) = false := by simp; omega
        have e9 : x.event ⟨3, i, k9, data, draw⟩ = x := by rw [ev3, if_neg (fun h => by have := h.2; have := HL.out; omega)]
        have E9 := zh e9
        clear e9
        go_upto_region 11 with (fail)
        go_quiet (fail)
        have m4 : Mv (fun _ => False) own1 wc own1 (wc.drewN nq) := Mv.drewN own1 wc nq
        have HX4 := zh (HX.out.mv m4 id)
        have HD4 := zh (HD.out.mv m4 fun l e => e.elim)
        have HM4 := zh (HM.out.trans (m4.mono fun l e => e.elim))
        have HR4 := zh (HR.out.keeps fun b hb => m4.same hb id)
        have kk : (wc.drewN nq).cell? ⟨w.heap.size, 0, none⟩ = some (.int .i64 3) := HX4.out.c 0
        clear m4 HX HD HM HR ha3 ha4 ha5 hpi hui
        generalize wc.drewN nq = w4 at *
        go_wp2
        go_ret
        rw [E9.out]
        exact ⟨rfl, _, _, _, _, HD4.out, HM4.out⟩
  by_cases q4 : kind = 4
  · subst q4
    go_upto_region 11 with (fail)
    go_quiet (fail)
    have m4 : Mv (fun _ => False) own1 wc own1 (wc.drewN nq) := Mv.drewN own1 wc nq
    have HX4 := zh (HX.out.mv m4 id)
    have HD4 := zh (HD.out.mv m4 fun l e => e.elim)
    have HM4 := zh (HM.out.trans (m4.mono fun l e => e.elim))
    have HR4 := zh (HR.out.keeps fun b hb => m4.same hb id)
    have kk : (wc.drewN nq).cell? ⟨w.heap.size, 0, none⟩ = some (.int .i64 4) := HX4.out.c 0
    clear m4 HX HD HM HR ha3 ha4 ha5 hpi hui
    generalize wc.drewN nq = w4 at *
    cases hup : x.up i
    · have e9 : x.event ⟨4, i, k, data, draw⟩ = x := by rw [ev4]; exact if_neg (by rw [hup]; decide)
      obtain ⟨ub, uo, uc, hub, hult, ha4, hui⟩ := HD4.out.flag Hin.out
      rw [hup] at hui
      go_wp2
      go_ret
      rw [e9]
      exact ⟨rfl, _, _, _, _, HD4.out, HM4.out⟩
    · skip
      obtain ⟨rb, ro, rc, hrb, hrlt, ha3, hpi⟩ := HD4.out.ptr Hin.out
      obtain ⟨ub, uo, uc, hub, hult, ha4, hui⟩ := HD4.out.flag Hin.out
      rw [hup] at hui
      have kc : w4.cell? ⟨w.heap.size, 3, none⟩ = some (.slice dp dn dc) := HX4.out.c 3
      have hkL : x.mails ≠ [] → k < x.mails.length := fun hne => by have h9 := Hk.out hne; have h8 : L ≠ 0 := fun e => hne (List.eq_nil_of_length_eq_zero (by rw [← HL.out]; exact e)); have := Int.emod_lt_of_pos (n % 18446744073709551616) (show (0 : Int) < (L : Int) by omega); rw [← HL.out]; omega
      have Hpn := zh (prop_nb HF.out hB7 hT Hin.out hkL hup data draw)
      have e9 : x.event ⟨4, i, k, data, draw⟩ = (x.set i ((x.r i).propose data).1).sent i ((x.r i).propose data).2 := by rw [ev4]; exact if_pos hup
      have E9 := zh e9
      have m6 : Mv (fun _ => False) own1 w4 own1 w4.drew := Mv.drew _ own1 w4
      have HD6 := zh (HD4.out.mv m6 fun l e => e.elim)
      have HM6 := zh (HM4.out.trans (m6.mono fun l e => e.elim))
      have HR6 := zh (HR4.out.keeps fun b hb => m6.same hb id)
      have HX6 := zh (HX4.out.mv m6 id)
      obtain ⟨wA, hwA⟩ : ∃ W, w4.drew.alloc (.cells #[.bool false, .bool false, .int .u8 0, .int .u64 0, .int .u64 0, .int .u64 0, .int .u64 0, .int .u64 0, .bool false, .slice none 0 0, .slice none 0 0, .bool false, .int .u64 0, .slice none 0 0, .slice none 0 0, .slice none 0 0] 100) = W := ⟨_, rfl⟩
      have mA : Mv (fun _ => False) own1 w4.drew (ext own1 w4.drew.heap.size 9) (w4.drew.alloc (.cells #[.bool false, .bool false, .int .u8 0, .int .u64 0, .int .u64 0, .int .u64 0, .int .u64 0, .int .u64 0, .bool false, .slice none 0 0, .slice none 0 0, .bool false, .int .u64 0, .slice none 0 0, .slice none 0 0, .slice none 0 0] 100)) := Mv.alloc own1 w4.drew _ 9
      have HBA := zh (Bx.new own1 w4.drew #[.bool false, .bool false, .int .u8 0, .int .u64 0, .int .u64 0, .int .u64 0, .int .u64 0, .int .u64 0, .bool false, .slice none 0 0, .slice none 0 0, .bool false, .int .u64 0, .slice none 0 0, .slice none 0 0, .slice none 0 0] 100)
      have Hn8 := zh (show w.heap.size ≤ w4.drew.heap.size from Nat.le_of_lt HX6.out.lt)
      have HDA := zh (HD6.out.mv mA fun l e => e.elim)
      have HMA := zh (HM6.out.trans (mA.mono fun l e => e.elim))
      have HRA := zh (HR6.out.keeps fun b hb => mA.same hb id)
      rw [hwA] at HBA HDA HMA HRA mA
      have hb0 := full_nb HF.out.full (by omega) hT Hin.out
      have Hp6 := zh (prop_w own1 i (p i) (g i) (x.r i) w4.drew (HD6.out.nd i Hin.out) (B + 2) hb0 (by omega) data dp dn dc HR6.out (by omega))
      have HpA := zh (prop_w _ i (p i) (g i) (x.r i) _ (HDA.out.nd i Hin.out) (B + 2) hb0 (by omega) data dp dn dc HRA.out (by omega))
      have Hlt6 := zh (show rb < w4.drew.heap.size ∧ own1 rb = 11 ∧ w.heap.size < w4.drew.heap.size ∧ own1 w.heap.size = 9 from ⟨hrlt, hrb, HX6.out.lt, HX6.out.lab⟩)
      have HltA := zh (show rb < wA.heap.size ∧ ext own1 w4.drew.heap.size 9 rb = 11 ∧ w.heap.size < wA.heap.size ∧ ext own1 w4.drew.heap.size 9 w.heap.size = 9 from ⟨Nat.lt_of_lt_of_le Hlt6.out.1 mA.t.size, (mA.lab _ Hlt6.out.1).trans Hlt6.out.2.1, Nat.lt_of_lt_of_le Hlt6.out.2.2.1 mA.t.size, (mA.lab _ Hlt6.out.2.2.1).trans Hlt6.out.2.2.2⟩)
      have za : wA.cell? ⟨a, 3, none⟩ = some (.slice (some ⟨rb, ro, none⟩) x.n rc) := (World.cell?_of_block (a := ⟨a, 3, none⟩) (mA.same HD6.out.lt id)).trans ha3
      have zp : wA.cell? ⟨rb, ro + i, none⟩ = some (.pointer (some ⟨p i, 0, none⟩)) := (World.cell?_of_block (a := ⟨rb, ro + i, none⟩) (mA.same Hlt6.out.1 id)).trans hpi
      have zc : wA.cell? ⟨w.heap.size, 3, none⟩ = some (.slice dp dn dc) := (World.cell?_of_block (a := ⟨w.heap.size, 3, none⟩) (mA.same Hlt6.out.2.2.1 id)).trans kc
      clear m6 mA hb0 e9 HR4 HR6 HRA HD4 HM4 hkL hub hult
      go_upto_region 14 with (fail)
      clear ha4 hui kk
      generalize ((x.r i).propose data).1 = r9 at *
      generalize ((x.r i).propose data).2 = o9 at *
      have n1 := World.new_ne w4.drew _ (show w4.drew.cell? ⟨a, 3, none⟩ = _ from ha3)
      have n2 := World.new_ne w4.drew _ (show w4.drew.cell? ⟨rb, ro + i, none⟩ = _ from hpi)
      have n3 := World.new_ne w4.drew _ (show w4.drew.cell? ⟨w.heap.size, 3, none⟩ = _ from kc)
      go_region_held3 (fun W => W.cell? ⟨a, 3, none⟩ = some (.slice (some ⟨rb, ro, none⟩) x.n rc) ∧ W.cell? ⟨rb, ro + i, none⟩ = some (.pointer (some ⟨p i, 0, none⟩)) ∧ W.cell? ⟨w.heap.size, 3, none⟩ = some (.slice dp dn dc)) (go_keep) (first
       | (go_at_call 56; refine (Hp6.out).mono ?_; rintro e w5 ⟨kk9, err, x9, own9, g9, rfl, hn9, ho9, hm9⟩; have HN9 := zh (HD6.out.node hm9 Hin.out hn9 Hpn.out.2.1); have HM9 := zh (HM6.out.trans (hm9.mono fun l e => by omega)); have HO9 := zh ho9; have y3 : w5.cell? ⟨a, 3, none⟩ = some (.slice (some ⟨rb, ro, none⟩) x.n rc) := (World.cell?_of_block (a := ⟨a, 3, none⟩) (hm9.same HD6.out.lt (by rw [HD6.out.oa]; omega))).trans ha3; have yp : w5.cell? ⟨rb, ro + i, none⟩ = some (.pointer (some ⟨p i, 0, none⟩)) := (World.cell?_of_block (a := ⟨rb, ro + i, none⟩) (hm9.same Hlt6.out.1 (by rw [Hlt6.out.2.1]; omega))).trans hpi; have yc : w5.cell? ⟨w.heap.size, 3, none⟩ = some (.slice dp dn dc) := (World.cell?_of_block (a := ⟨w.heap.size, 3, none⟩) (hm9.same Hlt6.out.2.2.1 (by rw [Hlt6.out.2.2.2]; omega))).trans kc; have n1 := World.new_ne w5 _ y3; have n2 := World.new_ne w5 _ yp; have n3 := World.new_ne w5 _ yc; clear hn9 ho9 hm9; have hst := store_b w5 _ (show (#[.bool false, .bool false, .int .u8 0, .int .u64 0, .int .u64 0, .int .u64 0, .int .u64 0, .int .u64 0, .bool false, .slice none 0 0, .slice none 0 0, .bool false, .int .u64 0, .slice none 0 0, .slice none 0 0, .slice none 0 0] : Array Value).size = 16 from rfl) x9; have HQ := zh (prq_b HN9.out HO9.out HM9.out); have D9 := zh (True.intro))
       | (go_at_call 56; refine (HpA.out).mono ?_; rintro e w5 ⟨kk9, err, x9, own9, g9, rfl, hn9, ho9, hm9⟩; have HN9 := zh (HDA.out.node hm9 Hin.out hn9 Hpn.out.2.1); have HM9 := zh (HMA.out.trans (hm9.mono fun l e => by omega)); have HO9 := zh ho9; have y3 : w5.cell? ⟨a, 3, none⟩ = some (.slice (some ⟨rb, ro, none⟩) x.n rc) := (World.cell?_of_block (a := ⟨a, 3, none⟩) (hm9.same HDA.out.lt (by rw [HDA.out.oa]; omega))).trans za; have yp : w5.cell? ⟨rb, ro + i, none⟩ = some (.pointer (some ⟨p i, 0, none⟩)) := (World.cell?_of_block (a := ⟨rb, ro + i, none⟩) (hm9.same HltA.out.1 (by rw [HltA.out.2.1]; omega))).trans zp; have yc : w5.cell? ⟨w.heap.size, 3, none⟩ = some (.slice dp dn dc) := (World.cell?_of_block (a := ⟨w.heap.size, 3, none⟩) (hm9.same HltA.out.2.2.1 (by rw [HltA.out.2.2.2]; omega))).trans zc; have n1 := World.new_ne w5 _ y3; have n2 := World.new_ne w5 _ yp; have n3 := World.new_ne w5 _ yc; have hbx := HBA.out.mv hm9 (by omega); have hst : Sem.run Try.prog (storeCells { block := w4.heap.size, off := 0 } x9.cells.toList) w5 = _ := store_a hbx.row rfl x9; have HQ := zh (prq_a HN9.out HO9.out HM9.out hbx Hn8.out); obtain ⟨w6, hw6⟩ : ∃ W, w5.setRow w4.drew.heap.size x9.cells = W := ⟨_, rfl⟩; have z3 : w6.cell? ⟨a, 3, none⟩ = some (.slice (some ⟨rb, ro, none⟩) x.n rc) := (World.cell?_of_block (a := ⟨a, 3, none⟩) (by rw [← hw6]; exact setRow_other _ _ _ _ (by have := HD6.out.lt; omega))).trans y3; have zzp : w6.cell? ⟨rb, ro + i, none⟩ = some (.pointer (some ⟨p i, 0, none⟩)) := (World.cell?_of_block (a := ⟨rb, ro + i, none⟩) (by rw [← hw6]; exact setRow_other _ _ _ _ (by have := Hlt6.out.1; omega))).trans yp; have zzc : w6.cell? ⟨w.heap.size, 3, none⟩ = some (.slice dp dn dc) := (World.cell?_of_block (a := ⟨w.heap.size, 3, none⟩) (by rw [← hw6]; exact setRow_other _ _ _ _ (by have := Hlt6.out.2.2.1; omega))).trans yc; rw [hw6] at hst HQ; clear hn9 ho9 hm9 hbx hw6))
      all_goals
       obtain ⟨own6, g6, hD7, ho7, hx7, m7⟩ := HQ.out
       have HD7 := zh hD7
       have HX7 := zh hx7
       have HM7 := zh m7
       have Hse := zh (sent_w own6 a p g6 (x.set i r9) v _ HD7.out i Hin.out (B + 209) (show Nb (B + 209) (if i = i then r9 else x.r i) by rw [if_pos rfl]; exact Hpn.out.1) (by omega) x9 o9 ho7 Hpn.out.2.2 (by show x.mails.length ≤ 600; rw [← HL.out]; exact hm6))
       clear hD7 ho7 hx7 m7 HQ hst HN9 HO9 HM9 y3 yp yc n1 n2 n3
       go_wp2_with (first
        | (refine wpList_load_row rfl 100 (.tmp 8) rfl _ rfl _ _ _ _ HX7.out.row Try.underlying100 rfl (show _ = some 16 by kernel_rfl) ?_)
        | (go_at_call 98; refine (Hse.out).mono ?_; rintro e w8 ⟨⟨v5, rfl⟩, own5, v6, h5, m5, k5⟩; have H5 := zh h5; have HM5 := zh (HM7.out.trans (m5.mono fun l e => by omega)); clear h5 m5 k5))
       go_ret
       rw [E9.out]
       exact ⟨rfl, _, _, _, _, H5.out, HM5.out⟩
  by_cases q5 : kind = 5
  · subst q5
    go_upto_region 11 with (fail)
    go_quiet (fail)
    have m4 : Mv (fun _ => False) own1 wc own1 (wc.drewN nq) := Mv.drewN own1 wc nq
    have HX4 := zh (HX.out.mv m4 id)
    have HD4 := zh (HD.out.mv m4 fun l e => e.elim)
    have HM4 := zh (HM.out.trans (m4.mono fun l e => e.elim))
    have HR4 := zh (HR.out.keeps fun b hb => m4.same hb id)
    have kk : (wc.drewN nq).cell? ⟨w.heap.size, 0, none⟩ = some (.int .i64 5) := HX4.out.c 0
    clear m4 HX HD HM HR ha3 ha4 ha5 hpi hui
    generalize wc.drewN nq = w4 at *
    have kd : w4.cell? ⟨w.heap.size, 4, none⟩ = some (.int .u64 (draw : Int)) := HX4.out.c 4
    have hnf := HF.out.full.nf Hin.out
    have Hcr := zh (crash_w own1 a p g x v w4 HD4.out i Hin.out (B + 2) (full_nb HF.out.full (by omega) hT Hin.out) (by omega) hnf.id (HF.out.full.fm i Hin.out).tT (by rw [hnf.n]; exact hnf.who.2) draw hd)
    clear hnf HX4 HR4
    go_wp2_with (go_at_call 101; refine (Hcr.out).mono ?_; rintro e w5 ⟨rfl, own5, p5, g5, v5, h5, m5⟩; have H5 := zh h5; have HM5 := zh (HM4.out.trans m5); clear h5 m5)
    go_ret
    rw [ev5]
    exact ⟨rfl, _, _, _, _, H5.out, HM5.out⟩
  by_cases q6 : kind = 6
  · subst q6
    go_upto_region 11 with (fail)
    go_quiet (fail)
    have m4 : Mv (fun _ => False) own1 wc own1 (wc.drewN nq) := Mv.drewN own1 wc nq
    have HX4 := zh (HX.out.mv m4 id)
    have HD4 := zh (HD.out.mv m4 fun l e => e.elim)
    have HM4 := zh (HM.out.trans (m4.mono fun l e => e.elim))
    have HR4 := zh (HR.out.keeps fun b hb => m4.same hb id)
    have kk : (wc.drewN nq).cell? ⟨w.heap.size, 0, none⟩ = some (.int .i64 6) := HX4.out.c 0
    clear m4 HX HD HM HR ha3 ha4 ha5 hpi hui
    generalize wc.drewN nq = w4 at *
    obtain ⟨ub, uo, uc, hub, hult, ha4, hui⟩ := HD4.out.flag Hin.out
    have hff := HD4.out.flagF Hin.out ha4
    go_upto_region 19 with (fail)
    go_still_tail 14, (by kernel_rfl)
    change wpList _ _ _ _ _ w4.drew
    have m6 : Mv (fun _ => False) own1 w4 own1 w4.drew := Mv.drew _ own1 w4
    have HD6 := zh (HD4.out.mv m6 fun l e => e.elim)
    have HM6 := zh (HM4.out.trans (m6.mono fun l e => e.elim))
    have HX6 := zh (HX4.out.mv m6 id)
    have hui' : w4.drew.cell? ⟨ub, uo + i, none⟩ = some (.bool (x.up i)) := hui
    have hff' : w4.drew.frozen? ⟨ub, uo + i, none⟩ = false := hff
    have ha4' : w4.drew.cell? ⟨a, 4, none⟩ = some (.slice (some ⟨ub, uo, none⟩) x.n uc) := ha4
    have Ha4 := zh (And.intro hub ha4')
    clear m6 HD4 HM4 HX4 HR4 hui hff ha4 ha4' kk hub hult
    generalize w4.drew = w6 at *
    go_upto_region 20 with (fail)
    obtain ⟨hD7, m7⟩ := HD6.out.flip Hin.out Ha4.out.1 Ha4.out.2 (!x.up i)
    have HD7 := zh hD7
    have HM7 := zh (HM6.out.trans (m7.mono (L' := fun l => l ≠ 9) fun l e => by omega))
    have HX7 := zh (HX6.out.mv m7 (by decide))
    clear hD7 m7 HD6 HM6 HX6 hui' hff' Ha4
    generalize w6.setCell ⟨ub, uo + i, none⟩ (.bool (!x.up i)) = w7 at *
    have kd : w7.cell? ⟨w.heap.size, 4, none⟩ = some (.int .u64 (draw : Int)) := HX7.out.c 4
    have hnf := HF.out.full.nf Hin.out
    have Hcr := zh (crash_w own1 a p g _ v w7 HD7.out i Hin.out (B + 2) (full_nb HF.out.full (by omega) hT Hin.out) (by omega) hnf.id (HF.out.full.fm i Hin.out).tT (by rw [show ({ x with up := fun j => if j = i then !x.up i else x.up j } : RS.W).r i = x.r i from rfl, hnf.n]; exact hnf.who.2) draw hd)
    clear hnf
    go_wp2_with (go_at_call 101; refine (Hcr.out).mono ?_; rintro e w5 ⟨rfl, own5, p5, g5, v5, h5, m5⟩; have H5 := zh h5; have HM5 := zh (HM7.out.trans m5); clear h5 m5)
    go_ret
    rw [ev6]
    exact ⟨rfl, _, _, _, _, H5.out, HM5.out⟩
  by_cases q7 : kind = 7
  · subst q7
    go_upto_region 11 with (fail)
    go_quiet (fail)
    have m4 : Mv (fun _ => False) own1 wc own1 (wc.drewN nq) := Mv.drewN own1 wc nq
    have HX4 := zh (HX.out.mv m4 id)
    have HD4 := zh (HD.out.mv m4 fun l e => e.elim)
    have HM4 := zh (HM.out.trans (m4.mono fun l e => e.elim))
    have HR4 := zh (HR.out.keeps fun b hb => m4.same hb id)
    have kk : (wc.drewN nq).cell? ⟨w.heap.size, 0, none⟩ = some (.int .i64 7) := HX4.out.c 0
    clear m4 HX HD HM HR ha3 ha4 ha5 hpi hui
    generalize wc.drewN nq = w4 at *
    obtain ⟨rb, ro, rc, hrb, hrlt, ha3, hpi⟩ := HD4.out.ptr Hin.out
    have hnf := HF.out.full.nf Hin.out
    have m6 : Mv (fun _ => False) own1 w4 own1 w4.drew := Mv.drew _ own1 w4
    have HD6 := zh (HD4.out.mv m6 fun l e => e.elim)
    have HM6 := zh (HM4.out.trans (m6.mono fun l e => e.elim))
    have Hco := zh (commit_w own1 i (p i) (g i) (x.r i) w4.drew (HD6.out.nd i Hin.out))
    have Hpk := zh (ndpack_yes_w own1 i (p i) (g i) (x.r i) w4.drew (HD6.out.nd i Hin.out) (B + 2) (full_nb HF.out.full (by omega) hT Hin.out) hnf.bc hnf.cl)
    have Hal := zh (show a < w4.heap.size ∧ own1 a = 10 ∧ rb < w4.heap.size ∧ own1 rb = 11 from ⟨HD4.out.lt, HD4.out.oa, hrlt, hrb⟩)
    clear hnf m6 HR4 HX4 HM4 HD4 hrb hrlt
    go_upto_region 22 with (fail)
    clear kk
    go_region_held3 (fun W => W.cell? ⟨a, 3, none⟩ = some (.slice (some ⟨rb, ro, none⟩) x.n rc) ∧ W.cell? ⟨rb, ro + i, none⟩ = some (.pointer (some ⟨p i, 0, none⟩))) (go_keep) (first
     | (go_at_call 65; refine (Hco.out).mono ?_; rintro e w5 ⟨rfl, rfl⟩; have y3 : w4.drew.cell? ⟨a, 3, none⟩ = some (.slice (some ⟨rb, ro, none⟩) x.n rc) := ha3; have yp : w4.drew.cell? ⟨rb, ro + i, none⟩ = some (.pointer (some ⟨p i, 0, none⟩)) := hpi)
     | (go_at_call 60; refine (Hpk.out).mono ?_; rintro e w5 ⟨rfl, own5, h5, m5⟩; have H5 := zh (HD6.out.node (m5.mono (L' := fun l => l = i ∨ l = 7) fun l e => .inl e) Hin.out h5 rfl); have HM5 := zh (HM6.out.trans (m5.mono fun l e => by omega)); have z3 : w5.cell? ⟨a, 3, none⟩ = some (.slice (some ⟨rb, ro, none⟩) x.n rc) := (World.cell?_of_block (a := ⟨a, 3, none⟩) (m5.same (show a < w4.drew.heap.size from Hal.out.1) (by rw [Hal.out.2.1]; omega))).trans ha3; have zp : w5.cell? ⟨rb, ro + i, none⟩ = some (.pointer (some ⟨p i, 0, none⟩)) := (World.cell?_of_block (a := ⟨rb, ro + i, none⟩) (m5.same (show rb < w4.drew.heap.size from Hal.out.2.2.1) (by rw [Hal.out.2.2.2]; omega))).trans hpi; clear h5 m5))
    rename_i hHeld
    clear hHeld
    go_wp2
    go_ret
    rw [ev7]
    exact ⟨rfl, _, _, _, _, H5.out, HM5.out⟩
  by_cases q8 : kind = 8
  · subst q8
    go_upto_region 11 with (fail)
    go_quiet (fail)
    have m4 : Mv (fun _ => False) own1 wc own1 (wc.drewN nq) := Mv.drewN own1 wc nq
    have HX4 := zh (HX.out.mv m4 id)
    have HD4 := zh (HD.out.mv m4 fun l e => e.elim)
    have HM4 := zh (HM.out.trans (m4.mono fun l e => e.elim))
    have HR4 := zh (HR.out.keeps fun b hb => m4.same hb id)
    have kk : (wc.drewN nq).cell? ⟨w.heap.size, 0, none⟩ = some (.int .i64 8) := HX4.out.c 0
    clear m4 HX HD HM HR ha3 ha4 ha5 hpi hui
    generalize wc.drewN nq = w4 at *
    have hm6' : x.mails.length ≤ 600 := by rw [← HL.out]; exact hm6
    have HTT := zh hT
    clear HR4
    go_upto_region 24 with (fail)
    rename_i K1 hK1
    refine RegT.wp_region_F (fun x y => y = x) (fun _ => rfl) (fun _ _ _ h k => k.trans h) (L := [RegT.pureK]) ?_ rfl
    apply RegT.T_pure rfl rfl rfl
    · intro W hR; clear hR; go_simp; rfl
    simp only [List.set_cons_succ, List.set_cons_zero, Nat.reduceAdd]
    refine RegT.T_end rfl (fun wa hS hf0 => ?_)
    rw [hS]
    clear hf0 hS wa
    refine hK1 _ _ ?_
    clear kk
    go_cut [] from 228 (fun wx => Hid (∃ own' g' v' X, X = x.ticks (RS.dr draw) x.n 0 ∧ X.n = x.n ∧ X.T = x.T ∧ X.mails.length ≤ 600 ∧ WdAt own' wx a p g' X v' ∧ RS.Full X (B + x.n) ∧ RS.Seen X ∧ Bx own' wx w.heap.size #[.int .i64 8, .int .i64 node, .int .i64 n, .slice dp dn dc, .int .u64 (draw : Int)] 82 ∧ Mv (fun l => l ≠ 9) own w own' wx))
    case first =>
     go_wp2
     go_loopw [10] (fun ix wr => ∃ (j : Nat) (own' : Own) (g' : Nat → Nat) (v' : Wv) (X : RS.W), ix = .int .i64 (j : Int) ∧ j ≤ x.n ∧ X.n = x.n ∧ X.T = x.T ∧ X.mails.length ≤ 600 ∧ Hid (X.ticks (RS.dr draw) (x.n - j) j = x.ticks (RS.dr draw) x.n 0) ∧ Hid (WdAt own' wr a p g' X v') ∧ Hid (RS.Full X (B + j)) ∧ Hid (RS.Seen X) ∧ Hid (Bx own' wr w.heap.size #[.int .i64 8, .int .i64 node, .int .i64 n, .slice dp dn dc, .int .u64 (draw : Int)] 82) ∧ Hid (Mv (fun l => l ≠ 9) own w own' wr)) (fun ix _ => x.n - (intOf ix).toNat)
     case atStart => exact ⟨0, own1, g, v, x, rfl, Nat.zero_le _, rfl, rfl, hm6', zh rfl, HD4, zh HF.out.full, zh HF.out.bd.seen, HX4, HM4⟩
     case round =>
      obtain ⟨j, ownj, gj, vj, X, rfl, hk, hXn, hXT, hXl, HX1, HDj, HFj, HSj, HBj, HMj⟩ := hrel
      clear HD4 HX4 HM4
      by_cases hlt : j < x.n
      · have hkX : j < X.n := by rw [hXn]; exact hlt
        obtain ⟨rb, ro, rc, hrb, hrlt, ha3, hpi⟩ := HDj.out.ptr hkX
        obtain ⟨ub, uo, uc, hub, hult, ha4, hui⟩ := HDj.out.flag hkX
        rw [hXn] at ha3 ha4
        have d1 : decide (j < x.n) = true := by simpa using hlt
        have d2 : decide ((j : Int) < (x.n : Int)) = true := by simpa using hlt
        have hk0 : (0 : Int) ≤ (j : Int) := by omega
        have hki : (j : Int) < (x.n : Int) := by omega
        have hTX : X.T ≤ 20 := by rw [hXT]; exact hT
        obtain ⟨d9, hd9⟩ : ∃ d, d = RS.dr draw j := ⟨_, rfl⟩
        have hd64 : d9 < 2 ^ 64 := by rw [hd9]; exact Nat.mod_lt _ (by decide)
        have c1 : IntKind.u64.wrap (j : Int) = (j : Int) := IntWalk.u64_in _ (by omega)
        have c2 : IntKind.u64.wrap ((draw : Int) + (j : Int)) = (d9 : Int) := by rw [IntKind.wrap_u64, hd9]; unfold RS.dr; omega
        have Hfs := zh (HFj.out.tickOne (by omega) HSj.out hkX d9)
        have Htl := zh (tick_len hXl j d9)
        have htk : (X.tickOne j d9).ticks (RS.dr draw) (x.n - (j + 1)) (j + 1) = x.ticks (RS.dr draw) x.n 0 := by
         have e := HX1.out
         rw [show x.n - j = (x.n - (j + 1)) + 1 by omega] at e
         rw [hd9]; exact e
        have Htk := zh htk
        have HkX := zh (And.intro hkX (And.intro hXn (And.intro hXT hXl)))
        clear htk hd9 hXn hXT hXl hkX HX1
        cases hup : X.up j
        · rw [hup] at hui
          have e9 : X.tickOne j d9 = X := if_neg (by rw [hup]; decide)
          have E9 := zh e9
          clear e9 hrb hrlt hub hult hup
          go_wp2
          go_roundw
          case rel => exact ⟨j + 1, ownj, gj, vj, X.tickOne j d9, by go_num, by omega, Htl.out.1.trans HkX.out.2.1, Htl.out.2.1.trans HkX.out.2.2.1, Htl.out.2.2, Htk, zh (by rw [E9.out]; exact HDj.out), zh Hfs.out.1, zh Hfs.out.2, HBj, HMj⟩
          case measure => simp [intOf]; omega
        · rw [hup] at hui
          have kd : wr.cell? ⟨w.heap.size, 4, none⟩ = some (.int .u64 (draw : Int)) := HBj.out.c 4
          have Htn := zh (tick_nb HFj.out (by omega) hTX HSj.out HkX.out.1 hup d9)
          have hb0 := full_nb HFj.out (by omega) hTX HkX.out.1
          have hbt := full_beat HFj.out HkX.out.1
          have hN : w.heap.size < wr.heap.size ∧ ¬ (ownj w.heap.size = j ∨ ownj w.heap.size = 7) := ⟨HBj.out.lt, by rw [HBj.out.lab]; omega⟩
          have ha : a < wr.heap.size ∧ ¬ (ownj a = j ∨ ownj a = 7) := ⟨HDj.out.lt, by rw [HDj.out.oa]; omega⟩
          have hr : rb < wr.heap.size ∧ ¬ (ownj rb = j ∨ ownj rb = 7) := ⟨hrlt, by rw [hrb]; omega⟩
          have Hlt := zh (And.intro hN (And.intro ha hr))
          have H911 := zh (And.intro HBj.out.lab hrb)
          have e9 : X.tickOne j d9 = (X.set j ((X.r j).tick d9).1).sent j ((X.r j).tick d9).2 := if_pos hup
          have E9 := zh e9
          have Hb0 := zh (And.intro hb0 hbt)
          clear e9 hN ha hr hb0 hbt hrb hrlt hub hult hup
          go_upto_region 28 with (fail)
          clear ha4 hui
          have m6 : Mv (fun _ => False) ownj wr ownj wr.drew := Mv.drew _ ownj wr
          have HD6 := zh (HDj.out.mv m6 fun l e => e.elim)
          have HM6 := zh (HMj.out.trans (m6.mono fun l e => e.elim))
          have HB6 := zh (HBj.out.mv m6 id)
          have HH := zh (tick_w ownj j (p j) (gj j) (X.r j) wr.drew (HD6.out.nd j HkX.out.1) (B + j + 2) Hb0.out.1 (by omega) Hb0.out.2 d9 hd64)
          clear m6 HDj HMj HBj
          generalize ((X.r j).tick d9).1 = r9 at *
          generalize ((X.r j).tick d9).2 = o9 at *
          go_region_held3 (fun W => W.cell? ⟨w.heap.size, 4, none⟩ = some (.int .u64 (draw : Int)) ∧ W.cell? ⟨a, 3, none⟩ = some (.slice (some ⟨rb, ro, none⟩) x.n rc) ∧ W.cell? ⟨rb, ro + j, none⟩ = some (.pointer (some ⟨p j, 0, none⟩))) (go_keep) (first
           | (go_at_call 58; refine (HH.out).mono ?_; rintro e w4 ⟨x9, own9, g9, rfl, hn9, ho9, hm9⟩; have HN9 := zh (HD6.out.node hm9 HkX.out.1 hn9 Htn.out.2.1); have HM9 := zh (HM6.out.trans (hm9.mono fun l e => by omega)); have HB9 := zh (HB6.out.mv hm9 (by omega)); have Hse := zh (sent_w own9 a p _ (X.set j r9) vj w4 HN9.out j HkX.out.1 (B + j + 3) (show Nb (B + j + 3) (if j = j then r9 else X.r j) by rw [if_pos rfl]; exact Htn.out.1) (by omega) x9 o9 ho9 Htn.out.2.2 (tick_len2 HkX.out.2.2.2 j r9 o9)); have hsm : ∀ b, b < wr.heap.size ∧ ¬ (ownj b = j ∨ ownj b = 7) → ∀ k, w4.cell? ⟨b, k, none⟩ = wr.cell? ⟨b, k, none⟩ := fun b hb k => World.cell?_of_block (a := ⟨b, k, none⟩) (hm9.same hb.1 hb.2); have hN := Hlt.out.1; have ha := Hlt.out.2.1; have hr := Hlt.out.2.2; have y0 : w4.cell? ⟨w.heap.size, 4, none⟩ = some (.int .u64 (draw : Int)) := (hsm w.heap.size hN _).trans kd; have y1 : w4.cell? ⟨a, 3, none⟩ = some (.slice (some ⟨rb, ro, none⟩) x.n rc) := (hsm a ha _).trans ha3; have y2 : w4.cell? ⟨rb, ro + j, none⟩ = some (.pointer (some ⟨p j, 0, none⟩)) := (hsm rb hr _).trans hpi; have Hsz := zh (show w.heap.size < w4.heap.size ∧ rb < w4.heap.size ∧ own9 w.heap.size = 9 ∧ own9 rb = 11 from ⟨Nat.lt_of_lt_of_le hN.1 hm9.t.size, Nat.lt_of_lt_of_le hr.1 hm9.t.size, (hm9.lab _ hN.1).trans H911.out.1, (hm9.lab _ hr.1).trans H911.out.2⟩); clear hn9 ho9 hm9 hsm hN ha hr)
           | (go_at_call 98; refine (Hse.out).mono ?_; rintro e w5 ⟨⟨v5, rfl⟩, own5, v6, h5, m5, k5⟩; have H5 := zh h5; have HM5 := zh (HM9.out.trans (m5.mono fun l e => by omega)); have HB5 := zh (HB9.out.mv m5 (by omega)); have hN2 := Hlt.out.1.1; have hr2 := Hlt.out.2.2.1; have sN : ∀ k, w5.cell? ⟨w.heap.size, k, none⟩ = w4.cell? ⟨w.heap.size, k, none⟩ := fun k => World.cell?_of_block (a := ⟨w.heap.size, k, none⟩) (m5.same Hsz.out.1 (by rw [Hsz.out.2.2.1]; decide)); have z0 : w5.cell? ⟨w.heap.size, 4, none⟩ = some (.int .u64 (draw : Int)) := (sN _).trans y0; have z1 : w5.cell? ⟨a, 3, none⟩ = some (.slice (some ⟨rb, ro, none⟩) x.n rc) := (k5 3 (by decide)).trans y1; have z2 : w5.cell? ⟨rb, ro + j, none⟩ = some (.pointer (some ⟨p j, 0, none⟩)) := (World.cell?_of_block (a := ⟨rb, ro + j, none⟩) (m5.same Hsz.out.2.1 (by rw [Hsz.out.2.2.2]; decide))).trans y2; clear h5 m5 k5 hN2 hr2 sN))
          rename_i hHeld
          clear hHeld
          go_wp2
          go_roundw
          case rel => exact ⟨j + 1, own5, _, v6, X.tickOne j d9, by go_num, by omega, Htl.out.1.trans HkX.out.2.1, Htl.out.2.1.trans HkX.out.2.2.1, Htl.out.2.2, Htk, zh (by rw [E9.out]; exact H5.out), zh Hfs.out.1, zh Hfs.out.2, HB5, HM5⟩
          case measure => simp [intOf]; omega
      · have d1 : decide (j < x.n) = false := by simpa using hlt
        have d2 : decide ((j : Int) < (x.n : Int)) = false := by simp; omega
        obtain rfl : j = x.n := by omega
        have hrn : vj.rn = x.n := by obtain ⟨_, _, e⟩ := HDj.out.r.form; rw [← hXn]; injection e with _ e; rw [e, List.length_map, List.length_range]
        have ha3 : wr.cell? ⟨a, 3, none⟩ = some (.slice vj.rp x.n vj.rc) := (HDj.out.cell 3).trans (by rw [← hrn]; rfl)
        have HXX := zh (And.intro hXn (And.intro hXT hXl))
        clear hrn hXn hXT hXl
        go_wp2
        go_meet
        have h9 := HX1.out
        rw [Nat.sub_self] at h9
        have h10 : X = x.ticks (RS.dr draw) x.n 0 := h9
        exact zh ⟨_, _, _, X, h10, HXX.out.1, HXX.out.2.1, HXX.out.2.2, HDj.out, HFj.out, HSj.out, HBj.out, HMj.out⟩
    case rest =>
     obtain ⟨own2, g2, v2, Y, hY, hYn, hYT, hYl, hD2, hF2, hS2, hB2, hM2⟩ := hcut.out
     have HD2 := zh hD2
     have HF2 := zh hF2
     have HS2 := zh hS2
     have HB2 := zh hB2
     have HM2 := zh hM2
     have HY := zh hY
     have HYY := zh (And.intro hYn (And.intro hYT hYl))
     clear hD2 hF2 hS2 hB2 hM2 hcut hY hYn hYT hYl HD4 HX4 HM4 HF
     go_wp2
     go_loopw [11] (fun ix wr => ∃ (j : Nat) (own' : Own) (g' : Nat → Nat) (v' : Wv) (X : RS.W), ix = .int .i64 (j : Int) ∧ j ≤ 200 ∧ X.n = x.n ∧ X.T = x.T ∧ X.mails.length ≤ 600 ∧ Hid (X.flow (RS.dr draw) (200 - j) j = Y.flow (RS.dr draw) 200 0) ∧ Hid (WdAt own' wr a p g' X v') ∧ Hid (RS.Full X (B + x.n + j)) ∧ Hid (RS.FI X (200 - j)) ∧ Hid (Bx own' wr w.heap.size #[.int .i64 8, .int .i64 node, .int .i64 n, .slice dp dn dc, .int .u64 (draw : Int)] 82) ∧ Hid (Mv (fun l => l ≠ 9) own w own' wr)) (fun ix _ => 200 - (intOf ix).toNat)
     case atStart => exact ⟨0, own2, g2, v2, Y, rfl, by omega, HYY.out.1, HYY.out.2.1, HYY.out.2.2, zh rfl, HD2, HF2, zh (HS2.out.fi _), HB2, HM2⟩
     case round =>
      obtain ⟨j, ownj, gj, vj, X, rfl, hk, hXn, hXT, hXl, HX1, HDj, HFj, HSj, HBj, HMj⟩ := hrel
      clear HD2 HB2 HM2 HF2 HS2
      have hmn : vj.mn = X.mails.length := by obtain ⟨_, _, e⟩ := HDj.out.m.form; injection e
      have end_ : (j = 200 ∨ X.mails = []) → x.event ⟨8, i, k, data, draw⟩ = X := fun hc => by
       rw [ev8, ← HY.out, ← HX1.out]
       rcases hc with hc | hc
       · rw [hc]; rfl
       · cases 200 - j with
         | zero => rfl
         | succ r => show (match X.mails with | [] => X | m :: ms => RS.W.flow (RS.dr draw) r (j + 1) ((X.with_ ms).arrive m (RS.dr draw j))) = X; rw [hc]
      have End := zh end_
      clear end_
      by_cases hlt : j < 200
      · have d1 : decide (j < 200) = true := by simpa using hlt
        have d2 : decide ((j : Int) < 200) = true := by simp; omega
        cases hms : X.mails with
        | nil =>
         have ha5 : wr.cell? ⟨a, 5, none⟩ = some (.slice vj.mp 0 vj.mc) := (HDj.out.cell 5).trans (by have e : vj.mn = 0 := (by rw [hmn, hms]; rfl); rw [← e]; rfl)
         have e9 := zh (End.out (.inr hms))
         clear hms hmn hXn hXT hXl
         go_wp2
         go_ret
         rw [e9.out]
         exact ⟨rfl, _, _, _, _, HDj.out, HMj.out⟩
        | cons m ms =>
         obtain ⟨L2, hL2⟩ : ∃ L2, L2 = X.mails.length := ⟨_, rfl⟩
         have hL0 : 0 < L2 := by rw [hL2, hms]; exact Nat.succ_pos _
         have ha5 : wr.cell? ⟨a, 5, none⟩ = some (.slice vj.mp L2 vj.mc) := (HDj.out.cell 5).trans (by rw [hL2, ← hmn]; rfl)
         have d3 : decide ((0 : Int) < (L2 : Int)) = true := by simp; omega
         have d4 : decide (0 < L2) = true := by simp; omega
         have hTX : X.T ≤ 20 := by rw [hXT]; exact hT
         obtain ⟨d9, hd9⟩ : ∃ d, d = RS.dr draw j := ⟨_, rfl⟩
         have hd64 : d9 < 2 ^ 64 := by rw [hd9]; exact Nat.mod_lt _ (by decide)
         have c1 : IntKind.u64.wrap (j : Int) = (j : Int) := IntWalk.u64_in _ (by omega)
         have c2 : IntKind.u64.wrap ((draw : Int) + (j : Int)) = (d9 : Int) := by rw [IntKind.wrap_u64, hd9]; unfold RS.dr; omega
         have hrem : 200 - j = (200 - (j + 1)) + 1 := by omega
         have hFI := HSj.out
         rw [hrem] at hFI
         have hin2 : m ∈ X.mails := by rw [hms]; exact List.mem_cons_self ..
         have hto := (HFj.out.mail hin2).2.1
         have Hq := zh (full_ask HFj.out (by omega) hTX hin2 (fun hne h6 hy hr he => hFI.head hms hto hne h6 hy hr he) d9)
         have Hfs := zh (HFj.out.first hFI (by omega) (by omega) hms d9)
         have hfl : ((X.with_ ms).arrive m d9).flow (RS.dr draw) (200 - (j + 1)) (j + 1) = Y.flow (RS.dr draw) 200 0 := by
          have e := HX1.out
          rw [hrem] at e
          rw [← e]
          show _ = (match X.mails with | [] => X | m :: ms => RS.W.flow (RS.dr draw) (200 - (j + 1)) (j + 1) ((X.with_ ms).arrive m (RS.dr draw j)))
          rw [hms, hd9]
         have Hfl := zh hfl
         have hlen : (X.with_ ms).mails.length ≤ 600 := by show ms.length ≤ 600; rw [hms] at hXl; have : (m :: ms).length = ms.length + 1 := rfl; omega
         have Har9 := zh (arrive_len hlen m d9)
         have her : X.with_ (X.mails.eraseIdx 0) = X.with_ ms := by rw [hms]; rfl
         have Htk := zh (show Calls Try.prog 100 #[.pointer (some ⟨a, 0, none⟩), .int .i64 0] wr.drew _ from take_w ownj a p gj X vj wr.drew (HDj.out.mv (Mv.drew (fun _ => False) ownj wr) fun l e => e.elim) 0 (by rw [hms]; exact Nat.succ_pos _) hXl m (by simp only [hms]; rfl))
         rw [her] at Htk
         have kd : wr.cell? ⟨w.heap.size, 4, none⟩ = some (.int .u64 (draw : Int)) := HBj.out.c 4
         have Hlt := zh (And.intro HBj.out.lt HBj.out.lab)
         have HM6 := zh (HMj.out.trans ((Mv.drew (fun _ => False) ownj wr).mono fun l e => e.elim))
         have HB6 := zh (HBj.out.mv (Mv.drew (fun _ => False) ownj wr) id)
         have Hlen := zh hlen
         have HkX := zh (And.intro hXn hXT)
         clear hfl hFI her hlen hmn hin2 hto hL2 HDj HBj HMj HSj HX1 hd9 hrem hXn hXT hms
         go_upto_region 32 with (fail)
         clear ha5
         go_region_held3 (fun W => W.cell? ⟨w.heap.size, 4, none⟩ = some (.int .u64 (draw : Int))) (go_keep) (first
          | (go_at_call 100; refine (Htk.out).mono ?_; rintro e w4 ⟨pl, nl, cl, pd, nd, cd, ag, own4, v4, rfl, h4, e4, t4, m4⟩; have HM4 := zh (HM6.out.trans (m4.mono fun l e => by omega)); have HB4 := zh (HB6.out.mv m4 (by omega)); have y4 : w4.cell? ⟨w.heap.size, 4, none⟩ = some (.int .u64 (draw : Int)) := (World.cell?_of_block (a := ⟨w.heap.size, 4, none⟩) (m4.same Hlt.out.1 (by rw [Hlt.out.2]; decide))).trans kd; have Har := zh (arrive_w own4 a p gj (X.with_ ms) v4 w4 h4 m pl pd nl cl nd cd ag e4 t4 (B + x.n + j + 2) (by omega) Hq.out.t Hq.out.f Hq.out.mf Hq.out.nb Hq.out.rn Hq.out.id Hq.out.nx d9 hd64 (B + x.n + j + 3) (by omega) Hq.out.hb.nb Hq.out.hb.n Hq.out.hb.mf Hlen.out); have Hl4 := zh (show w.heap.size < w4.heap.size ∧ own4 w.heap.size = 9 from ⟨Nat.lt_of_lt_of_le Hlt.out.1 m4.t.size, (m4.lab _ Hlt.out.1).trans Hlt.out.2⟩); clear h4 e4 t4 m4)
          | (go_at_call 99; refine (Har.out).mono ?_; rintro e w5 ⟨⟨v5, rfl⟩, own5, g5, v6, h5, m5⟩; have H5 := zh h5; have HM5 := zh (HM4.out.trans m5); have HB5 := zh (HB4.out.mv m5 (by decide)); have z4 : w5.cell? ⟨w.heap.size, 4, none⟩ = some (.int .u64 (draw : Int)) := (World.cell?_of_block (a := ⟨w.heap.size, 4, none⟩) (m5.same Hl4.out.1 (by rw [Hl4.out.2]; decide))).trans y4; clear h5 m5))
         rename_i hHeld
         clear hHeld
         go_wp2
         go_roundw
         case rel => exact ⟨j + 1, own5, g5, v6, (X.with_ ms).arrive m d9, by go_num, by omega, Har9.out.1.trans HkX.out.1, Har9.out.2.1.trans HkX.out.2, Har9.out.2.2, Hfl, H5, zh Hfs.out.2, zh Hfs.out.1, HB5, HM5⟩
         case measure => simp [intOf]; omega
      · have d1 : decide (j < 200) = false := by simpa using hlt
        have d2 : decide ((j : Int) < 200) = false := by simp; omega
        have e9 := zh (End.out (.inl (by omega)))
        clear hmn hXn hXT hXl
        go_wp2
        go_ret
        rw [e9.out]
        exact ⟨rfl, _, _, _, _, HDj.out, HMj.out⟩
  have b0 : (kind == 0) = false := by simpa using q0
  have b1 : (kind == 1) = false := by simpa using q1
  have b2 : (kind == 2) = false := by simpa using q2
  have b3 : (kind == 3) = false := by simpa using q3
  have b4 : (kind == 4) = false := by simpa using q4
  have b5 : (kind == 5) = false := by simpa using q5
  have b6 : (kind == 6) = false := by simpa using q6
  have b7 : (kind == 7) = false := by simpa using q7
  have b8 : (kind == 8) = false := by simpa using q8
  have e9 := zh (ev9 x kind i k data draw q0 q1 q2 q3 q4 q5 q6 q7 q8)
  clear q0 q1 q2 q3 q4 q5 q6 q7 q8
  go_upto_region 11 with (fail)
  go_quiet (fail)
  have m4 : Mv (fun _ => False) own1 wc own1 (wc.drewN nq) := Mv.drewN own1 wc nq
  have HX4 := zh (HX.out.mv m4 id)
  have HD4 := zh (HD.out.mv m4 fun l e => e.elim)
  have HM4 := zh (HM.out.trans (m4.mono fun l e => e.elim))
  have HR4 := zh (HR.out.keeps fun b hb => m4.same hb id)
  have kk : (wc.drewN nq).cell? ⟨w.heap.size, 0, none⟩ = some (.int .i64 kind) := HX4.out.c 0
  clear m4 HX HD HM HR ha3 ha4 ha5 hpi hui
  generalize wc.drewN nq = w4 at *
  go_wp2
  go_ret
  rw [e9.out]
  exact ⟨rfl, _, _, _, _, HD4.out, HM4.out⟩
end
end Go.Proofs.Yteellfgiejnigaa
