/- RaftSafe: H32. -/
import Derived.Test.YteellfgiejnigaaQtA00
import Derived.Test.YteellfgiejnigaaQtA27
namespace Go.Proofs.Yteellfgiejnigaa
open Go.ChangeShapes Go.WideShapes Go.ChangeAt Go.RowKit
set_option linter.unusedVariables false
def Stq (own : Own) (w : World) (L : Nat → Prop) (i p q t0 : Nat) (who0 : Int) (r : RS.Rf) (o : RS.Ou) (w' : World) : Prop :=
 ∃ own' x' g', StAt own' w' i p q g' t0 who0 r x' o ∧ Mv L own w own' w'
def nca (nt : RS.Nt) (pl pd : Option Addr) (nl cl nd cd : Nat) : Array Value := #[.int .u8 (nt.kind : Int), .int .u64 (nt.term : Int), .int .u64 (nt.round : Int), .int .u64 (nt.index : Int), .int .u64 (nt.at_ : Int), .int .u64 (nt.commit : Int), .bool nt.yes, .slice pl nl cl, .slice pd nd cd]
def Frn (own : Own) (i : Nat) : Foot := fun b => own b ≠ i ∧ own b ≠ 7
theorem Frn.mv {i : Nat} {own own' : Own} {w w' : World} {P : World → Foot → Prop} (hP : Footed P) (h : P w (Frn own i)) (m : Mv (fun l => l = i ∨ l = 7) own w own' w') : P w' (Frn own' i) :=
 hP.move h fun b hb e => ⟨by unfold Frn; rw [m.lab b hb]; exact e, m.same hb fun h => by rcases h with h | h; exact e.1 h; exact e.2 h⟩
theorem bx3 (own : Own) (w : World) (a b c : Array Value) (ta tb tc : TypeId) :
 Bx (ext own w.heap.size 9) (((w.alloc (.cells a ta)).alloc (.cells b tb)).alloc (.cells c tc)) w.heap.size a ta ∧ Bx (ext own w.heap.size 9) (((w.alloc (.cells a ta)).alloc (.cells b tb)).alloc (.cells c tc)) (w.heap.size + 1) b tb ∧
 Bx (ext own w.heap.size 9) (((w.alloc (.cells a ta)).alloc (.cells b tb)).alloc (.cells c tc)) (w.heap.size + 1 + 1) c tc ∧ Mv (fun _ => False) own w (ext own w.heap.size 9) (((w.alloc (.cells a ta)).alloc (.cells b tb)).alloc (.cells c tc)) := by
 have hB : Below w.heap.size w (((w.alloc (.cells a ta)).alloc (.cells b tb)).alloc (.cells c tc)) := (((Below.refl _ _).alloc (Nat.le_refl _) _).alloc (by simp) _).alloc (by simp; omega) _
 refine ⟨⟨?_, ext_ge (Nat.le_refl _)⟩, ⟨?_, ext_ge (by omega)⟩, ⟨?_, ext_ge (by omega)⟩, Mv.of_below hB 9⟩
 · rw [Below.heap_alloc _ _ _ (by simp; omega), Below.heap_alloc _ _ _ (by simp)]; exact heap_alloc_new w _
 · rw [Below.heap_alloc _ _ _ (by simp)]
   have := heap_alloc_new (w.alloc (.cells a ta)) (.cells b tb)
   rwa [heap_alloc_size] at this
 · have := heap_alloc_new ((w.alloc (.cells a ta)).alloc (.cells b tb)) (.cells c tc)
   rwa [heap_alloc_size, heap_alloc_size] at this
structure LedC (own0 : Own) (w0 : World) (own : Own) (w : World) (i p q g t0 : Nat) (who0 : Int) (r : RS.Rf) (x : Ov) (o : RS.Ou) (N f : Nat) (nt : RS.Nt) (pl pd : Option Addr) (nl cl nd cd : Nat) : Prop where
 st : StAt own w i p q g t0 who0 r x o
 a : Bx own w N #[.pointer (some ⟨q, 0, none⟩)] 159
 b : Bx own w (N + 1) #[.int .i64 (f : Int)] 3
 c : Bx own w (N + 1 + 1) (nca nt pl pd nl cl nd cd) 31
 l : EsR w (Frn own i) (.slice pl nl cl) nt.list
 d : DatA w (Frn own i) (.slice pd nd cd) []
 m : Mv (fun l => l = i ∨ l = 7) own0 w0 own w
section
variable {own0 own own' : Own} {w0 w w' : World} {i p q g g' t0 N f : Nat} {who0 : Int} {r r' : RS.Rf} {x x' : Ov} {o o' : RS.Ou} {M : Nat} {nt : RS.Nt} {pl pd : Option Addr} {nl cl nd cd : Nat}
theorem LedC.step (h : LedC own0 w0 own w i p q g t0 who0 r x o N f nt pl pd nl cl nd cd) (s : StAt own' w' i p q g' t0 who0 r' x' o') (m : Mv (fun l => l = i ∨ l = 7) own w own' w') : LedC own0 w0 own' w' i p q g' t0 who0 r' x' o' N f nt pl pd nl cl nd cd := by
 have hi := h.st.nd.hi
 have h9 : ¬ (9 = i ∨ 9 = 7) := by omega
 exact ⟨s, h.a.mv m h9, h.b.mv m h9, h.c.mv m h9, Frn.mv (footed_esr _ _) h.l m, Frn.mv (footed_dat _ _) h.d m, h.m.trans m⟩
theorem LedC.below (h : LedC own0 w0 own w i p q g t0 who0 r x o N f nt pl pd nl cl nd cd) (hB : Below w.heap.size w w') : LedC own0 w0 (ext own w.heap.size 9) w' i p q g t0 who0 r x o N f nt pl pd nl cl nd cd := h.step (h.st.below hB) (Mv.of_below hB 9)
theorem LedC.drewN (h : LedC own0 w0 own w i p q g t0 who0 r x o N f nt pl pd nl cl nd cd) (n : Nat) : LedC own0 w0 own (w.drewN n) i p q g t0 who0 r x o N f nt pl pd nl cl nd cd := h.step (h.st.mv (L := fun _ => False) (Mv.drewN own w n) id id) (Mv.drewN own w n)
theorem LedC.drew (h : LedC own0 w0 own w i p q g t0 who0 r x o N f nt pl pd nl cl nd cd) : LedC own0 w0 own w.drew i p q g t0 who0 r x o N f nt pl pd nl cl nd cd := h.step h.st.drew (Mv.drew _ own w)
theorem LedC.start (h : StAt own w i p q g t0 who0 r x o) (f : Nat) (hL : EsR w (Frn own i) (.slice pl nl cl) nt.list) (hD : DatA w (Frn own i) (.slice pd nd cd) []) :
 LedC own w (ext own w.heap.size 9) (((w.alloc (.cells #[.pointer (some ⟨q, 0, none⟩)] 159)).alloc (.cells #[.int .i64 (f : Int)] 3)).alloc (.cells (nca nt pl pd nl cl nd cd) 31)) i p q g t0 who0 r x o w.heap.size f nt pl pd nl cl nd cd := by
 obtain ⟨b1, b2, b3, m⟩ := bx3 own w #[.pointer (some ⟨q, 0, none⟩)] #[.int .i64 (f : Int)] (nca nt pl pd nl cl nd cd) 159 3 31
 exact ⟨h.mv m id id, b1, b2, b3, Frn.mv (footed_esr _ _) hL (m.mono fun _ e => e.elim), Frn.mv (footed_dat _ _) hD (m.mono fun _ e => e.elim), (m.mono fun _ e => e.elim)⟩
theorem LedC.fin (h : LedC own0 w0 own w i p q g t0 who0 r x o N f nt pl pd nl cl nd cd) (k : Stp own w (fun l => l = 7) i p q g t0 who0 r' x o' w') : Stq own0 w0 (fun l => l = i ∨ l = 7) i p q t0 who0 r' o' w' := by
 obtain ⟨own', x', s, _, m⟩ := k
 exact ⟨own', x', g, s, h.m.trans (m.mono fun l e => .inr e)⟩
theorem or2 {a b p : Prop} (h : a ∨ b) (x : a → p) (y : b → p) : p := h.elim x y
theorem StAt.shot (h : StAt own w i p q g t0 who0 r x o) (nt : RS.Nt) (pl pd : Option Addr) (nl cl nd cd : Nat) : StAt own ((((((((((w.setCell ⟨q, 2, none⟩ (.bool true)).setCell ⟨q, 3, none⟩ (.int .u8 (nt.kind : Int))).setCell ⟨q, 4, none⟩ (.int .u64 (nt.term : Int))).setCell ⟨q, 5, none⟩ (.int .u64 (nt.round : Int))).setCell ⟨q, 6, none⟩ (.int .u64 (nt.index : Int))).setCell ⟨q, 7, none⟩ (.int .u64 (nt.at_ : Int))).setCell ⟨q, 8, none⟩ (.int .u64 (nt.commit : Int))).setCell ⟨q, 9, none⟩ (.bool nt.yes)).setCell ⟨q, 10, none⟩ (.slice pl nl cl)).setCell ⟨q, 11, none⟩ (.slice pd nd cd)) i p q g t0 who0 r { x with sh := true, f0 := (nt.kind : Int), f1 := (nt.term : Int), f2 := (nt.round : Int), f3 := (nt.index : Int), f4 := (nt.at_ : Int), f5 := (nt.commit : Int), f6 := nt.yes, f7p := pl, f7n := nl, f7c := cl, f8p := pd, f8n := nd, f8c := cd } o := by
 have h1 := h.setq 2 (.bool true) { x with sh := true } o rfl ⟨h.ov.an, h.ov.se, h.ov.ne⟩
 have h2 := h1.setq 3 (.int .u8 (nt.kind : Int)) { x with sh := true, f0 := (nt.kind : Int) } o rfl ⟨h1.ov.an, h1.ov.se, h1.ov.ne⟩
 have h3 := h2.setq 4 (.int .u64 (nt.term : Int)) { x with sh := true, f0 := (nt.kind : Int), f1 := (nt.term : Int) } o rfl ⟨h2.ov.an, h2.ov.se, h2.ov.ne⟩
 have h4 := h3.setq 5 (.int .u64 (nt.round : Int)) { x with sh := true, f0 := (nt.kind : Int), f1 := (nt.term : Int), f2 := (nt.round : Int) } o rfl ⟨h3.ov.an, h3.ov.se, h3.ov.ne⟩
 have h5 := h4.setq 6 (.int .u64 (nt.index : Int)) { x with sh := true, f0 := (nt.kind : Int), f1 := (nt.term : Int), f2 := (nt.round : Int), f3 := (nt.index : Int) } o rfl ⟨h4.ov.an, h4.ov.se, h4.ov.ne⟩
 have h6 := h5.setq 7 (.int .u64 (nt.at_ : Int)) { x with sh := true, f0 := (nt.kind : Int), f1 := (nt.term : Int), f2 := (nt.round : Int), f3 := (nt.index : Int), f4 := (nt.at_ : Int) } o rfl ⟨h5.ov.an, h5.ov.se, h5.ov.ne⟩
 have h7 := h6.setq 8 (.int .u64 (nt.commit : Int)) { x with sh := true, f0 := (nt.kind : Int), f1 := (nt.term : Int), f2 := (nt.round : Int), f3 := (nt.index : Int), f4 := (nt.at_ : Int), f5 := (nt.commit : Int) } o rfl ⟨h6.ov.an, h6.ov.se, h6.ov.ne⟩
 have h8 := h7.setq 9 (.bool nt.yes) { x with sh := true, f0 := (nt.kind : Int), f1 := (nt.term : Int), f2 := (nt.round : Int), f3 := (nt.index : Int), f4 := (nt.at_ : Int), f5 := (nt.commit : Int), f6 := nt.yes } o rfl ⟨h7.ov.an, h7.ov.se, h7.ov.ne⟩
 have h9 := h8.setq 10 (.slice pl nl cl) { x with sh := true, f0 := (nt.kind : Int), f1 := (nt.term : Int), f2 := (nt.round : Int), f3 := (nt.index : Int), f4 := (nt.at_ : Int), f5 := (nt.commit : Int), f6 := nt.yes, f7p := pl, f7n := nl, f7c := cl } o rfl ⟨h8.ov.an, h8.ov.se, h8.ov.ne⟩
 have h10 := h9.setq 11 (.slice pd nd cd) { x with sh := true, f0 := (nt.kind : Int), f1 := (nt.term : Int), f2 := (nt.round : Int), f3 := (nt.index : Int), f4 := (nt.at_ : Int), f5 := (nt.commit : Int), f6 := nt.yes, f7p := pl, f7n := nl, f7c := cl, f8p := pd, f8n := nd, f8c := cd } o rfl ⟨h9.ov.an, h9.ov.se, h9.ov.ne⟩
 exact h10
theorem Mv.shot {L : Nat → Prop} (hq : L (own q)) (nt : RS.Nt) (pl pd : Option Addr) (nl cl nd cd : Nat) : Mv L own w own ((((((((((w.setCell ⟨q, 2, none⟩ (.bool true)).setCell ⟨q, 3, none⟩ (.int .u8 (nt.kind : Int))).setCell ⟨q, 4, none⟩ (.int .u64 (nt.term : Int))).setCell ⟨q, 5, none⟩ (.int .u64 (nt.round : Int))).setCell ⟨q, 6, none⟩ (.int .u64 (nt.index : Int))).setCell ⟨q, 7, none⟩ (.int .u64 (nt.at_ : Int))).setCell ⟨q, 8, none⟩ (.int .u64 (nt.commit : Int))).setCell ⟨q, 9, none⟩ (.bool nt.yes)).setCell ⟨q, 10, none⟩ (.slice pl nl cl)).setCell ⟨q, 11, none⟩ (.slice pd nd cd)) := by
 iterate 10 refine Mv.trans ?_ (Mv.set (a := ⟨q, _, none⟩) hq _)
 exact Mv.refl _ _ _
theorem may_of_term {B T i : Nat} {es : List Ent} {a : Nat} (h : termAt B T es i = (a, true)) : mayI B es.length i = true := by
 unfold termAt at h
 split at h
 · cases h
 · rename_i hn
   unfold mayI
   simp; omega
theorem LedC.packed (h : LedC own0 w0 own w i p q g t0 who0 r x o N f nt pl pd nl cl nd cd) (hr : rfc r' g = rfc r g) (ht : Touch (Ft own i p) w w') (hk : ∃ v, TkAt w' (fun b => Ft own i p b ∨ w.heap.size ≤ b) g r'.base r'.bt v r'.es) : LedC own0 w0 (ext own w.heap.size i) w' i p q g t0 who0 r' x o N f nt pl pd nl cl nd cd := by
 obtain ⟨n, m⟩ := h.st.nd.touched ht hr hk
 exact h.step (h.st.of_nd n m) (m.mono fun l e => .inl e)
theorem LedC.newtk (h : LedC own0 w0 own w i p q g t0 who0 r x o N f nt pl pd nl cl nd cd) (hB : Below w.heap.size w w') (hk : ∃ v, TkAt w' (fun b => w.heap.size ≤ b) g' r'.base r'.bt v r'.es) (hr : (rfc r g).setIfInBounds 5 (.pointer (some ⟨g', 0, none⟩)) = rfc r' g') :
 LedC own0 w0 (ext own w.heap.size i) (w'.setCell ⟨p, 5, none⟩ (.pointer (some ⟨g', 0, none⟩))) i p q g' t0 who0 r' x o N f nt pl pd nl cl nd cd := by
 have hlt := h.st.nd.lt
 have hop : ext own w.heap.size i p = i := (ext_lt hlt).trans h.st.nd.op
 have m1 : Mv (fun l => l = i) own w (ext own w.heap.size i) w' := Mv.of_below hB i
 have m2 : Mv (fun l => l = i) (ext own w.heap.size i) w' (ext own w.heap.size i) (w'.setCell ⟨p, 5, none⟩ (.pointer (some ⟨g', 0, none⟩))) := Mv.set (a := ⟨p, 5, none⟩) hop _
 obtain ⟨v, hk⟩ := hk
 have hrp : w'.heap[p]? = some (.cells (rfc r g) 95) := (hB.block p hlt).trans h.st.nd.rp
 have hn : NdAt (ext own w.heap.size i) (w'.setCell ⟨p, 5, none⟩ (.pointer (some ⟨g', 0, none⟩))) i p g' r' := by
  refine ⟨h.st.nd.hi, ?_, hop, v, ?_⟩
  · rw [heap_setCell_same hrp, hr]
  · refine (hk.mono (S' := Ft (ext own w.heap.size i) i p) fun b _ hb => ⟨ext_ge hb, fun e => ?_⟩).frame fun b hb => Below.heap_setCell _ _ _ _ hb.2
    subst e
    exact absurd hlt (Nat.not_lt.2 hb)
 exact h.step (h.st.of_nd hn (m1.trans m2)) ((m1.trans m2).mono fun l e => .inl e)
theorem led1_a {r : RS.Rf} {f : Nat} {nt : RS.Nt} (h7 : nt.kind = 7) (h : nt.index ≤ r.commit) : r.led1 f nt = (r, r.answer RS.Ou.none f r.commit true) := by unfold RS.Rf.led1; rw [if_pos h7, if_pos h]
theorem led1_b {r : RS.Rf} {f : Nat} {nt : RS.Nt} (h7 : nt.kind = 7) (h : ¬ nt.index ≤ r.commit) (ht : (RS.termAt r.base r.bt r.es nt.index).2 = true ∧ (RS.termAt r.base r.bt r.es nt.index).1 = nt.at_) :
 r.led1 f nt = (({ r with base := nt.index, bt := nt.at_, es := r.es.drop (nt.index - r.base), commit := nt.index } : RS.Rf), ({ r with base := nt.index, bt := nt.at_, es := r.es.drop (nt.index - r.base), commit := nt.index } : RS.Rf).answer RS.Ou.none f nt.index true) := by
 unfold RS.Rf.led1; rw [if_pos h7, if_neg h, if_pos ht]
theorem led1_c {r : RS.Rf} {f : Nat} {nt : RS.Nt} (h7 : nt.kind = 7) (h : ¬ nt.index ≤ r.commit) (ht : ¬ ((RS.termAt r.base r.bt r.es nt.index).2 = true ∧ (RS.termAt r.base r.bt r.es nt.index).1 = nt.at_)) :
 r.led1 f nt = (({ r with base := nt.index, bt := nt.at_, es := [], commit := nt.index } : RS.Rf), ({ r with base := nt.index, bt := nt.at_, es := [], commit := nt.index } : RS.Rf).answer RS.Ou.none f nt.index true) := by
 unfold RS.Rf.led1; rw [if_pos h7, if_neg h, if_neg ht]
theorem led1_d {r : RS.Rf} {f : Nat} {nt : RS.Nt} (h7 : nt.kind ≠ 7) (he : (RS.meetR r.base r.bt r.es nt.index nt.at_ nt.list).2.2 = 241) : r.led1 f nt = (r, r.answer RS.Ou.none f (min (max nt.index 1 - 1) r.last) false) := by
 unfold RS.Rf.led1; rw [if_neg h7, if_pos he]
theorem led1_e {r : RS.Rf} {f : Nat} {nt : RS.Nt} (h7 : nt.kind ≠ 7) (he : (RS.meetR r.base r.bt r.es nt.index nt.at_ nt.list).2.2 = 240) : r.led1 f nt = (r, r.answer RS.Ou.none f r.base true) := by
 unfold RS.Rf.led1; rw [if_neg h7, if_neg (by rw [he]; decide), if_pos he]
theorem led1_f {r : RS.Rf} {f k : Nat} {add : List Ent} {nt : RS.Nt} (h7 : nt.kind ≠ 7) (he : RS.meetR r.base r.bt r.es nt.index nt.at_ nt.list = (k, add, 0)) (h1 : add ≠ []) (h2 : k < r.commit) : r.led1 f nt = (r, RS.Ou.none) := by
 unfold RS.Rf.led1; rw [if_neg h7, he, if_neg (show ¬ (0 : Int) = 241 by decide), if_neg (show ¬ (0 : Int) = 240 by decide), if_pos ⟨h1, h2⟩]
theorem led1_g {r : RS.Rf} {f k : Nat} {nt : RS.Nt} (h7 : nt.kind ≠ 7) (he : RS.meetR r.base r.bt r.es nt.index nt.at_ nt.list = (k, [], 0)) {c th : Nat} (hth : th = nt.index + nt.list.length) (hc : c = max r.commit (min nt.commit th)) : r.led1 f nt = (({ r with commit := c } : RS.Rf), ({ r with commit := c } : RS.Rf).answer RS.Ou.none f th true) := by
 subst hth; subst hc
 unfold RS.Rf.led1; rw [if_neg h7, he, if_neg (show ¬ (0 : Int) = 241 by decide), if_neg (show ¬ (0 : Int) = 240 by decide), if_neg (fun h => h.1 rfl)]; rfl
theorem led1_h {r : RS.Rf} {f k : Nat} {add : List Ent} {nt : RS.Nt} (h7 : nt.kind ≠ 7) (he : RS.meetR r.base r.bt r.es nt.index nt.at_ nt.list = (k, add, 0)) (h1 : add ≠ []) (h2 : ¬ k < r.commit) {c th : Nat} (hth : th = nt.index + nt.list.length) (hc : c = max r.commit (min nt.commit th)) :
 r.led1 f nt = (({ r with es := r.es.take (k - r.base) ++ add, commit := c } : RS.Rf), ({ r with es := r.es.take (k - r.base) ++ add, commit := c } : RS.Rf).answer { RS.Ou.none with add := add } f th true) := by
 subst hth; subst hc
 unfold RS.Rf.led1; rw [if_neg h7, he, if_neg (show ¬ (0 : Int) = 241 by decide), if_neg (show ¬ (0 : Int) = 240 by decide), if_neg (fun h => h2 h.2)]; dsimp only; rw [if_neg h1]
theorem meet_three {B T : Nat} {es : List Ent} {prev term : Nat} {ss : List Ent} {k : Nat} {add : List Ent} {me : Int} (h : RS.meetR B T es prev term ss = (k, add, me)) : (k = 0 ∧ add = [] ∧ me = 240) ∨ (k = 0 ∧ add = [] ∧ me = 241) ∨ me = 0 := by
 unfold RS.meetR at h
 split at h
 · cases h; exact .inl ⟨rfl, rfl, rfl⟩
 · split at h
   · cases h; exact .inr (.inl ⟨rfl, rfl, rfl⟩)
   · split at h <;> (cases h; exact .inr (.inr rfl))
def MeetU (k an : Nat) (add : List Ent) (me : Int) (B0 : Nat) (y : Value) (W : World) : Prop := ∃ p c, y = .tuple #[.int .u64 (k : Int), .slice p an c, .int .i64 me] ∧ EsR W (fun b => B0 ≤ b) (.slice p an c) add
theorem MeetU.keeps {k an : Nat} {add : List Ent} {me : Int} {B0 : Nat} {y : Value} {W W' : World} (h : MeetU k an add me B0 y W) (hk : Keeps W W') : MeetU k an add me B0 y W' := by
 obtain ⟨p, c, e, h1⟩ := h; exact ⟨p, c, e, h1.keeps hk⟩
def AddU (an : Nat) (add : List Ent) (B0 : Nat) (y : Value) (W : World) : Prop := ∃ p c, y = .slice p an c ∧ EsR W (fun b => B0 ≤ b) (.slice p an c) add
theorem AddU.keeps {an : Nat} {add : List Ent} {B0 : Nat} {y : Value} {W W' : World} (h : AddU an add B0 y W) (hk : Keeps W W') : AddU an add B0 y W' := by
 obtain ⟨p, c, e, h1⟩ := h; exact ⟨p, c, e, h1.keeps hk⟩
theorem EsR.len {W : World} {S : Foot} {v : Value} {l : List Ent} (h : EsR W S v l) : ∃ p c, v = .slice p l.length c := by obtain ⟨p, c, xs, h1, _⟩ := h; exact ⟨p, c, h1⟩
theorem meetR_rs (B T : Nat) (es : List Ent) (prev term : Nat) (ss : List Ent) : RS.meetR B T es prev term ss = meetR B T es prev term ss := rfl
theorem meet_add {B T : Nat} {es : List Ent} {prev term : Nat} {ss : List Ent} {k : Nat} {add : List Ent} (h : meetR B T es prev term ss = (k, add, 0)) (hn : add ≠ []) : B ≤ k ∧ ∃ j, add = ss.drop j ∧ k = prev + j := by
 unfold meetR at h
 split at h
 · cases h
 · split at h
   · cases h
   · split at h
     · cases h; exact absurd rfl hn
     · rename_i j hj
       cases h
       refine ⟨?_, j, rfl, rfl⟩
       have hm := List.find?_some hj
       unfold misses at hm
       simp at hm
       omega
theorem LedC.packedM (h : LedC own0 w0 own w i p q g t0 who0 r x o N f nt pl pd nl cl nd cd) (hr : rfc r' g = rfc r g) (ht : Touch (Ft own i p) w w') (hk : ∃ v, TkAt w' (fun b => Ft own i p b ∨ w.heap.size ≤ b) g r'.base r'.bt v r'.es) : LedC own0 w0 (ext own w.heap.size i) w' i p q g t0 who0 r' x o N f nt pl pd nl cl nd cd ∧ Mv (fun l => l = i ∨ l = 7) own w (ext own w.heap.size i) w' := by
 obtain ⟨n, m⟩ := h.st.nd.touched ht hr hk
 have m' : Mv (fun l => l = i ∨ l = 7) own w (ext own w.heap.size i) w' := m.mono fun l e => .inl e
 exact ⟨h.step (h.st.of_nd n m) m', m'⟩
theorem OvAt.adds (h : OvAt w (Ft own 7 q) x RS.Ou.none) (pa : Option Addr) (an ca : Nat) (add : List Ent) (e : an = add.length) : OvAt w (Ft own 7 q) { x with ap := pa, an := an, ac := ca } { RS.Ou.none with add := add } := ⟨e, h.se, h.ne⟩
set_option maxRecDepth 100000 in
set_option maxHeartbeats 40000000 in
theorem led_7_w (own : Own) (i p q g t0 : Nat) (who0 : Int) (r : RS.Rf) (x : Ov) (w : World) (h : StAt own w i p q g t0 who0 r x RS.Ou.none) (M : Nat) (hb : Nb M r) (hM : M ≤ 90000) (f : Nat) (hf : f < 7) (nt : RS.Nt) (pl pd : Option Addr) (nl cl nd cd : Nat)
 (hL : EsR w (Frn own i) (.slice pl nl cl) nt.list) (hD : DatA w (Frn own i) (.slice pd nd cd) []) (hln : nt.list.length ≤ 16) (hle : ∀ e ∈ nt.list, e.2.length ≤ 1000000) (hix : nt.index ≤ 4611686018427387904) (hcm : nt.commit ≤ 4611686018427387904) (hat : nt.at_ < 2 ^ 64) (d : Nat) (hd : d < 2 ^ 64) (h7 : nt.kind = 7) :
 Calls Try.prog 121 #[.pointer (some ⟨q, 0, none⟩), .int .i64 (f : Int), .agg #[.int .u8 (nt.kind : Int), .int .u64 (nt.term : Int), .int .u64 (nt.round : Int), .int .u64 (nt.index : Int), .int .u64 (nt.at_ : Int), .int .u64 (nt.commit : Int), .bool nt.yes, .slice pl nl cl, .slice pd nd cd], .int .u64 (d : Int)] w fun e w' => (∃ v, e = .returned v) ∧ Stq own w (fun l => l = i ∨ l = 7) i p q t0 who0 (r.led f nt d).1 (r.led f nt d).2 w' := by
 have H7 := zh h7
 clear h7
 have hi7 := h.nd.hi
 have Hb := zh hb
 have HS1 := zh (LedC.start (nt := nt) h f hL hD)
 obtain ⟨w1, hw1⟩ : ∃ w1, (((w.alloc (.cells #[.pointer (some ⟨q, 0, none⟩)] 159)).alloc (.cells #[.int .i64 (f : Int)] 3)).alloc (.cells #[.int .u8 (nt.kind : Int), .int .u64 (nt.term : Int), .int .u64 (nt.round : Int), .int .u64 (nt.index : Int), .int .u64 (nt.at_ : Int), .int .u64 (nt.commit : Int), .bool nt.yes, .slice pl nl cl, .slice pd nd cd] 31)) = w1 := ⟨_, rfl⟩
 unfold nca at HS1
 rw [hw1] at HS1
 have HW := zh hw1
 have HT2 := zh hb.T2
 clear h hw1 hL hD hb
 generalize ext own w.heap.size 9 = own1 at *
 have Hfo := zh (follow_w own1 i p q g t0 who0 r x RS.Ou.none w1 HS1.out.st HT2.out d hd)
 go_enter Try.func121, Try.ntmps121
 go_upto_region 1 with (fail)
 rw [HW.out]
 have hb0 := HS1.out.a.c0
 go_upto_region 2 with (go_at_call 117; refine (Hfo.out).mono ?_; rintro e w2 ⟨⟨v, rfl⟩, h2, m2⟩; have HS2 := zh (HS1.out.step h2 (m2.mono fun l e => .inl e)); clear h2 m2; clear hb0)
 clear HS1 Hfo HW HT2
 have hb0 := HS2.out.a.c0
 have hb1 := HS2.out.b.c0
 have hq0 := HS2.out.st.q0
 have hp8 := HS2.out.st.nd.cleader
 have hp10 := HS2.out.st.nd.cquiet
 have hf8 := HS2.out.st.nd.frozen 8
 have hf10 := HS2.out.st.nd.frozen 10
 have hne := HS2.out.st.ne
 have hn0 := HS2.out.st.bxnp HS2.out.a
 have hn1 := HS2.out.st.bxnp HS2.out.b
 go_region_held3 (fun w' => w'.cell? ⟨w.heap.size, 0, none⟩ = some (.pointer (some ⟨q, 0, none⟩)) ∧ w'.cell? ⟨q, 0, none⟩ = some (.pointer (some ⟨p, 0, none⟩)) ∧ w'.cell? ⟨w.heap.size + 1, 0, none⟩ = some (.int .i64 (f : Int))) (go_keep) (fail)
 rename_i hHeld
 clear hHeld
 have HS3 := zh ((HS2.out.step ((HS2.out.st.setp 8 (.int .i64 (f : Int)) { r.follow d with leader := (f : Int) } rfl rfl rfl rfl).setp 10 (.int .i64 0) { r.follow d with leader := (f : Int), quiet := 0 } rfl rfl rfl rfl)
  (((Mv.set (L := fun l => l = i) (a := ⟨p, 8, none⟩) HS2.out.st.nd.op _).trans (Mv.set (L := fun l => l = i) (a := ⟨p, 10, none⟩) HS2.out.st.nd.op _)).mono fun l e => .inl e)).drew)
 clear hb0 hb1 hq0 hp8 hp10 hf8 hf10 HS2
 generalize ((w2.setCell ⟨p, 8, none⟩ (.int .i64 (f : Int))).setCell ⟨p, 10, none⟩ (.int .i64 0)).drew = w3 at *
 have n0 : w3.cell? ⟨w.heap.size + 1 + 1, 0, none⟩ = some (.int .u8 (nt.kind : Int)) := HS3.out.c.c 0
 have HV := zh (show r.led f nt d = RS.Rf.led1 ({ r.follow d with leader := (f : Int), quiet := 0 } : RS.Rf) f nt from rfl)
 have hB1 : ({ r.follow d with leader := (f : Int), quiet := 0 } : RS.Rf).base ≤ M := Hb.out.base
 have hB2 : ({ r.follow d with leader := (f : Int), quiet := 0 } : RS.Rf).es.length ≤ M := Hb.out.len
 have hB3 : ({ r.follow d with leader := (f : Int), quiet := 0 } : RS.Rf).commit ≤ M := Hb.out.commit
 generalize ({ r.follow d with leader := (f : Int), quiet := 0 } : RS.Rf) = r1 at *
 have k1 : (nt.kind == 7) = true := by simp [H7.out]
 have k2 : ((nt.kind : Int) == 7) = true := by simp [H7.out]
 by_cases hA' : nt.index ≤ r1.commit
 · have HL := zh (led1_a (f := f) H7.out hA')
   have n3 : w3.cell? ⟨w.heap.size + 1 + 1, 3, none⟩ = some (.int .u64 (nt.index : Int)) := HS3.out.c.c 3
   have hb0 := HS3.out.a.c0
   have hq0 := HS3.out.st.q0
   have hp6 := HS3.out.st.nd.ccommit
   have d1 : decide (nt.index ≤ r1.commit) = true := by simpa using hA'
   have d2 : decide ((nt.index : Int) ≤ (r1.commit : Int)) = true := by simpa using hA'
   clear hA'
   go_upto_region 5 with (fail)
   go_quiet (fail)
   clear d1 d2 n3 hb0 hq0 hp6
   have HS4 := zh (HS3.out.drewN nq)
   clear HS3
   generalize w3.drewN nq = w4 at *
   have hb0 := HS4.out.a.c0
   have hq0 := HS4.out.st.q0
   have hp6 := HS4.out.st.nd.ccommit
   have Ha := zh (answer_w own1 i p q _ t0 who0 r1 x RS.Ou.none w4 HS4.out.st w.heap.size (w.heap.size + 1) f r1.commit true HS4.out.a HS4.out.b (Nat.zero_le _))
   go_wp2_with (go_at_call 131; refine (Ha.out).mono ?_; rintro e w9 ⟨⟨v, rfl⟩, k9⟩; have HK := zh k9; clear k9)
   refine bodyPost_ret (results_none rfl _ _ _) rfl ?_
   rw [HV.out, HL.out]
   exact ⟨⟨_, rfl⟩, HS4.out.fin HK.out⟩
 · have hix64 : nt.index < 2 ^ 64 := by omega
   have HA := zh hA'
   have n3 : w3.cell? ⟨w.heap.size + 1 + 1, 3, none⟩ = some (.int .u64 (nt.index : Int)) := HS3.out.c.c 3
   have hb0 := HS3.out.a.c0
   have hq0 := HS3.out.st.q0
   have hp6 := HS3.out.st.nd.ccommit
   have d1 : decide (nt.index ≤ r1.commit) = false := by simpa using hA'
   have d2 : decide ((nt.index : Int) ≤ (r1.commit : Int)) = false := by have := hA'; simp; omega
   clear hA'
   go_upto_region 5 with (fail)
   go_quiet (fail)
   clear d1 d2 n3 hb0 hq0 hp6
   have HS4 := zh (HS3.out.drewN nq)
   clear HS3
   generalize w3.drewN nq = w4 at *
   have hb0 := HS4.out.a.c0
   have hq0 := HS4.out.st.q0
   have n3 : w4.cell? ⟨w.heap.size + 1 + 1, 3, none⟩ = some (.int .u64 (nt.index : Int)) := HS4.out.c.c 3
   have n4 : w4.cell? ⟨w.heap.size + 1 + 1, 4, none⟩ = some (.int .u64 (nt.at_ : Int)) := HS4.out.c.c 4
   have hp5 := HS4.out.st.nd.ctk
   have Hlen := zh (show r1.es.length ≤ 1000000 by omega)
   obtain ⟨ta, hta⟩ : ∃ y, termAt r1.base r1.bt r1.es nt.index = y := ⟨_, rfl⟩
   have Htm := zh (fun (W : World) (hR : RegT.Grow w4.drew W) => HS4.out.st.nd.tk.elim fun v htk => termat_w _ g r1.base r1.bt v r1.es nt.index W ((htk.keeps (Keeps.refl w4).drew).keeps hR.block) Hlen.out hix64)
   rw [hta] at Htm
   have Hta := zh hta
   clear hta
   obtain ⟨ta1, ta2⟩ := ta
   go_upto_region 7 with (fail)
   apply RegT.wp_region_T rfl 266 15 rfl (by kernel_rfl) RegT.Grow RegT.Grow.refl RegT.Grow.trans
   ·
    iterate 9
     apply RegT.T_pure rfl rfl rfl
     · intro W hR; have h0 := Keeps.cell hR.block hb0; have h1 := Keeps.cell hR.block hq0; have h2 := Keeps.cell hR.block hp5; have h3 := Keeps.cell hR.block n3; clear hR; go_simp; rfl
     simp only [List.set_cons_succ, List.set_cons_zero, Nat.reduceAdd]
    apply RegT.T_const rfl rfl rfl (.tuple #[.int .u64 (ta1 : Int), .bool ta2]) (fun _ _ h => h)
    · intro W hR hf
      have Hc := zh (Htm.out W hR)
      clear hR hf
      go_simp
      exact RegT.OpOK_enter Hc.out (fun e w' h => ⟨_, h.1, rfl, h.2⟩)
    simp only [List.set_cons_succ, List.set_cons_zero, Nat.reduceAdd]
    iterate 5
     apply RegT.T_pure rfl rfl rfl
     · intro W hR; clear hR; go_simp; rfl
     simp only [List.set_cons_succ, List.set_cons_zero, Nat.reduceAdd]
    refine RegT.T_end rfl (fun w5 hS hf0 => ?_)
    have HS5 := zh (HS4.out.drew.below hS)
    clear hS hf0 n3 n4 hb0 hq0 hp5 HS4 Htm
    generalize ext own1 w4.drew.heap.size 9 = own5 at *
    have hb0 := HS5.out.a.c0
    have hq0 := HS5.out.st.q0
    have hp5 := HS5.out.st.nd.ctk
    have n3 : w5.cell? ⟨w.heap.size + 1 + 1, 3, none⟩ = some (.int .u64 (nt.index : Int)) := HS5.out.c.c 3
    have n4 : w5.cell? ⟨w.heap.size + 1 + 1, 4, none⟩ = some (.int .u64 (nt.at_ : Int)) := HS5.out.c.c 4
    have hcase : (ta2 = true ∧ ta1 = nt.at_) ∨ (ta2 = false ∨ (ta2 = true ∧ ¬ ta1 = nt.at_)) := by
     cases ta2
     · exact .inr (.inl rfl)
     · by_cases e : ta1 = nt.at_
       · exact .inl ⟨rfl, e⟩
       · exact .inr (.inr ⟨rfl, e⟩)
    refine or2 hcase ?lb ?lx
    case' lb =>
     rintro ⟨rfl, e3⟩
     have HL := zh (led1_b (f := f) H7.out HA.out (by rw [termAt_rs, Hta.out]; exact ⟨rfl, e3⟩))
     have t1 : (ta1 == nt.at_) = true := by simp [e3]
     have t2 : ((ta1 : Int) == (nt.at_ : Int)) = true := by simp [e3]
     have E3 := zh e3
     clear e3 hcase
     go_upto_region 9 with (fail)
     clear t1 t2 n4
     go_still_tail 9, (by kernel_rfl)
     change wpList _ _ _ _ _ w5.drew
     have HS6 := zh HS5.out.drew
     clear hb0 hq0 hp5 n3 HS5
     generalize w5.drew = w6 at *
     have hmay : mayI r1.base r1.es.length nt.index = true := may_of_term Hta.out
     have Hpk := zh (HS6.out.st.nd.tk.elim fun v htk => pack_ok_w _ g r1.base r1.bt nt.index v r1.es w6 htk hmay Hlen.out)
     have Htb := zh (show (termAt r1.base r1.bt r1.es nt.index).1 = nt.at_ by rw [Hta.out]; exact E3.out)
     rw [Htb.out] at Hpk
     clear hmay Hta Htb
     go_upto_region 11 with (go_at_call 34; refine (Hpk.out).mono ?_; rintro e w7 ⟨rfl, hk7, t7⟩; have HK7 := zh (And.intro hk7 t7); clear hk7 t7)
     have HS7 := zh (HS6.out.packed (r' := { r1 with base := nt.index, bt := nt.at_, es := r1.es.drop (nt.index - r1.base) }) rfl HK7.out.2 HK7.out.1)
     clear HS6 HK7 Hpk
     generalize ext own5 w6.heap.size i = own7 at *
     generalize hr2 : ({ r1 with base := nt.index, bt := nt.at_, es := r1.es.drop (nt.index - r1.base) } : RS.Rf) = r2 at *
    case' lx =>
     intro hcase
     refine or2 hcase ?lc ?ld
     case' lc =>
      intro e2
      subst e2
      have HL := zh (led1_c (f := f) H7.out HA.out (by rw [termAt_rs, Hta.out]; exact fun e => by cases e.1))
      clear hcase
      go_upto_region 10 with (fail)
     case' ld =>
      rintro ⟨rfl, e3⟩
      have HL := zh (led1_c (f := f) H7.out HA.out (by rw [termAt_rs, Hta.out]; exact fun e => e3 e.2))
      have t1 : (ta1 == nt.at_) = false := by simp [e3]
      have t2 : ((ta1 : Int) == (nt.at_ : Int)) = false := by simp; omega
      clear e3 hcase
      go_upto_region 10 with (fail)
      clear t1 t2
     all_goals
      have Hnew := zh (fun (W : World) => new_w (fun _ => True) nt.index nt.at_ (.slice none 0 0) [] W hix64 hat (EsR.nil _ _) (by decide) (fun e he => (by cases he)))
      apply RegT.wp_region_T rfl 266 11 rfl (by kernel_rfl) RegT.Grow RegT.Grow.refl RegT.Grow.trans
      case' h =>
       iterate 8
        apply RegT.T_pure rfl rfl rfl
        · intro W hR; have h0 := Keeps.cell hR.block hb0; have h1 := Keeps.cell hR.block hq0; have h2 := Keeps.cell hR.block n3; have h3 := Keeps.cell hR.block n4; clear hR; go_simp; rfl
        simp only [List.set_cons_succ, List.set_cons_zero, Nat.reduceAdd]
       apply RegT.T_pred rfl rfl rfl (NewTk w5.heap.size nt.index nt.at_ []) (fun _ _ h => h) (fun y x z hR h => h.keeps hR.block)
       · intro W hR hf0
         have Hc := zh (Hnew.out W)
         have hsz := zh (show w5.heap.size ≤ W.heap.size from hR.size)
         clear hR hf0
         go_simp
         exact RegT.OpOK_enter Hc.out (fun e w' ⟨he, ⟨v', hk⟩, hB⟩ => ⟨_, he, ⟨_, v', rfl, hsz.out, by have h2 := hk.mono (S' := fun b => w5.heap.size ≤ b) fun b _ hb => Nat.le_trans hsz.out hb; rw [List.take_nil] at h2; exact h2⟩, hB⟩)
       intro v96
       simp only [List.set_cons_succ, List.set_cons_zero, Nat.reduceAdd]
       iterate 2
        apply RegT.T_pure rfl rfl rfl
        · intro W hR; clear hR; go_simp; rfl
        simp only [List.set_cons_succ, List.set_cons_zero, Nat.reduceAdd]
       refine RegT.T_tail (fun w6 hR hf0 => ?_)
      case hL => rfl
      case hwok => kernel_rfl
      obtain ⟨g2, v2, rfl, hg2, htk2⟩ := (show NewTk w5.heap.size nt.index nt.at_ [] v96 w6 from hf0 _ (.head _) (.inl rfl))
      have HB6 := zh ((Below.refl w5.heap.size w5).drew.trans hR)
      have hp5' : w6.cell? ⟨p, 5, none⟩ = some (.pointer (some ⟨g, 0, none⟩)) := Keeps.cell HB6.out.block hp5
      have hf5' : w6.frozen? ⟨p, 5, none⟩ = false := by have h1 := (HB6.out.block p HS5.out.st.nd.lt).trans HS5.out.st.nd.rp; simp [World.frozen?, h1]
      have HK6 := zh htk2
      clear hR hf0 htk2 hb0 hq0 hp5 n3 n4 Hnew
      go_upto_region 11 with (fail)
      have HS7 := zh (HS5.out.newtk (r' := { r1 with base := nt.index, bt := nt.at_, es := [] }) HB6.out ⟨v2, HK6.out⟩ rfl)
      clear HS5 HB6 HK6 hp5' hf5'
      generalize w6.setCell ⟨p, 5, none⟩ (.pointer (some ⟨g2, 0, none⟩)) = w7 at *
      generalize ext own5 w5.heap.size i = own7 at *
      generalize hr2 : ({ r1 with base := nt.index, bt := nt.at_, es := [] } : RS.Rf) = r2 at *
    all_goals
     have n3 : w7.cell? ⟨w.heap.size + 1 + 1, 3, none⟩ = some (.int .u64 (nt.index : Int)) := HS7.out.c.c 3
     have hb0 := HS7.out.a.c0
     have hq0 := HS7.out.st.q0
     have hp6 := HS7.out.st.nd.ccommit
     have hf6 := HS7.out.st.nd.frozen 6
     go_still_tail 8, (by kernel_rfl)
     change wpList _ _ _ _ _ w7.drew
     have HS8 := zh HS7.out.drew
     have hp6' : w7.drew.cell? ⟨p, 6, none⟩ = some (.int .u64 (r2.commit : Int)) := hp6
     have hf6' : w7.drew.frozen? ⟨p, 6, none⟩ = false := hf6
     clear HS7 n3 hb0 hq0 hp6 hf6
     generalize w7.drew = w8 at *
     go_upto_region 12 with (fail)
     have HS9 := zh (HS8.out.step (HS8.out.st.setp 6 (.int .u64 (nt.index : Int)) { r2 with commit := nt.index } rfl rfl rfl rfl) ((Mv.set (L := fun l => l = i) (a := ⟨p, 6, none⟩) HS8.out.st.nd.op _).mono fun l e => .inl e))
     clear HS8 hp6' hf6'
     generalize w8.setCell ⟨p, 6, none⟩ (.int .u64 (nt.index : Int)) = w9 at *
     have n0 : w9.cell? ⟨w.heap.size + 1 + 1, 0, none⟩ = some (.int .u8 (nt.kind : Int)) := HS9.out.c.c 0
     have n1 : w9.cell? ⟨w.heap.size + 1 + 1, 1, none⟩ = some (.int .u64 (nt.term : Int)) := HS9.out.c.c 1
     have n2 : w9.cell? ⟨w.heap.size + 1 + 1, 2, none⟩ = some (.int .u64 (nt.round : Int)) := HS9.out.c.c 2
     have n3 : w9.cell? ⟨w.heap.size + 1 + 1, 3, none⟩ = some (.int .u64 (nt.index : Int)) := HS9.out.c.c 3
     have n4 : w9.cell? ⟨w.heap.size + 1 + 1, 4, none⟩ = some (.int .u64 (nt.at_ : Int)) := HS9.out.c.c 4
     have n5 : w9.cell? ⟨w.heap.size + 1 + 1, 5, none⟩ = some (.int .u64 (nt.commit : Int)) := HS9.out.c.c 5
     have n6 : w9.cell? ⟨w.heap.size + 1 + 1, 6, none⟩ = some (.bool nt.yes) := HS9.out.c.c 6
     have n7 : w9.cell? ⟨w.heap.size + 1 + 1, 7, none⟩ = some (.slice pl nl cl) := HS9.out.c.c 7
     have n8 : w9.cell? ⟨w.heap.size + 1 + 1, 8, none⟩ = some (.slice pd nd cd) := HS9.out.c.c 8
     have q2 : w9.cell? ⟨q, 2, none⟩ = some (.bool x.sh) := HS9.out.st.c 2
     have z2 := HS9.out.st.frozen 2
     have q3 : w9.cell? ⟨q, 3, none⟩ = some (.int .u8 x.f0) := HS9.out.st.c 3
     have z3 := HS9.out.st.frozen 3
     have q4 : w9.cell? ⟨q, 4, none⟩ = some (.int .u64 x.f1) := HS9.out.st.c 4
     have z4 := HS9.out.st.frozen 4
     have q5 : w9.cell? ⟨q, 5, none⟩ = some (.int .u64 x.f2) := HS9.out.st.c 5
     have z5 := HS9.out.st.frozen 5
     have q6 : w9.cell? ⟨q, 6, none⟩ = some (.int .u64 x.f3) := HS9.out.st.c 6
     have z6 := HS9.out.st.frozen 6
     have q7 : w9.cell? ⟨q, 7, none⟩ = some (.int .u64 x.f4) := HS9.out.st.c 7
     have z7 := HS9.out.st.frozen 7
     have q8 : w9.cell? ⟨q, 8, none⟩ = some (.int .u64 x.f5) := HS9.out.st.c 8
     have z8 := HS9.out.st.frozen 8
     have q9 : w9.cell? ⟨q, 9, none⟩ = some (.bool x.f6) := HS9.out.st.c 9
     have z9 := HS9.out.st.frozen 9
     have q10 : w9.cell? ⟨q, 10, none⟩ = some (.slice x.f7p x.f7n x.f7c) := HS9.out.st.c 10
     have z10 := HS9.out.st.frozen 10
     have q11 : w9.cell? ⟨q, 11, none⟩ = some (.slice x.f8p x.f8n x.f8c) := HS9.out.st.c 11
     have z11 := HS9.out.st.frozen 11
     have hb0 := HS9.out.a.c0
     have hqa := HS9.out.st.bxne HS9.out.a
     have hqc := HS9.out.st.bxne HS9.out.c
     go_region_held3 (fun w' => w'.cell? ⟨w.heap.size, 0, none⟩ = some (.pointer (some ⟨q, 0, none⟩)) ∧ w'.cell? ⟨w.heap.size + 1 + 1, 0, none⟩ = some (.int .u8 (nt.kind : Int)) ∧ w'.cell? ⟨w.heap.size + 1 + 1, 1, none⟩ = some (.int .u64 (nt.term : Int)) ∧ w'.cell? ⟨w.heap.size + 1 + 1, 2, none⟩ = some (.int .u64 (nt.round : Int)) ∧ w'.cell? ⟨w.heap.size + 1 + 1, 3, none⟩ = some (.int .u64 (nt.index : Int)) ∧ w'.cell? ⟨w.heap.size + 1 + 1, 4, none⟩ = some (.int .u64 (nt.at_ : Int)) ∧ w'.cell? ⟨w.heap.size + 1 + 1, 5, none⟩ = some (.int .u64 (nt.commit : Int)) ∧ w'.cell? ⟨w.heap.size + 1 + 1, 6, none⟩ = some (.bool nt.yes) ∧ w'.cell? ⟨w.heap.size + 1 + 1, 7, none⟩ = some (.slice pl nl cl) ∧ w'.cell? ⟨w.heap.size + 1 + 1, 8, none⟩ = some (.slice pd nd cd)) (go_keep) (fail)
     rename_i hHeld
     clear hHeld
     have HSA := zh ((HS9.out.step (HS9.out.st.shot nt pl pd nl cl nd cd) (Mv.shot (Or.inr HS9.out.st.oq) nt pl pd nl cl nd cd)).drew)
     clear HS9 n0 n1 n2 n3 n4 n5 n6 n7 n8 q2 q3 q4 q5 q6 q7 q8 q9 q10 q11 z2 z3 z4 z5 z6 z7 z8 z9 z10 z11 hb0 hqa hqc
     generalize ((((((((((w9.setCell ⟨q, 2, none⟩ (.bool true)).setCell ⟨q, 3, none⟩ (.int .u8 (nt.kind : Int))).setCell ⟨q, 4, none⟩ (.int .u64 (nt.term : Int))).setCell ⟨q, 5, none⟩ (.int .u64 (nt.round : Int))).setCell ⟨q, 6, none⟩ (.int .u64 (nt.index : Int))).setCell ⟨q, 7, none⟩ (.int .u64 (nt.at_ : Int))).setCell ⟨q, 8, none⟩ (.int .u64 (nt.commit : Int))).setCell ⟨q, 9, none⟩ (.bool nt.yes)).setCell ⟨q, 10, none⟩ (.slice pl nl cl)).setCell ⟨q, 11, none⟩ (.slice pd nd cd)).drew = wa at *
     generalize hx2 : ({ x with sh := true, f0 := (nt.kind : Int), f1 := (nt.term : Int), f2 := (nt.round : Int), f3 := (nt.index : Int), f4 := (nt.at_ : Int), f5 := (nt.commit : Int), f6 := nt.yes, f7p := pl, f7n := nl, f7c := cl, f8p := pd, f8n := nd, f8c := cd } : Ov) = x2 at *
     clear hx2
     have hb0 := HSA.out.a.c0
     have n8 : wa.cell? ⟨w.heap.size + 1 + 1, 8, none⟩ = some (.slice pd nd cd) := HSA.out.c.c 8
     have Hdat := zh (fun (W : World) (hR : RegT.Grow wa.drew W) => (show RdB W (.slice pd nd cd) [] from HSA.out.d.rd.keeps ((Keeps.refl wa).drew.trans hR.block)))
     go_upto_region 13 with (fail)
     apply RegT.wp_region_T rfl 266 8 rfl (by kernel_rfl) RegT.Grow RegT.Grow.refl RegT.Grow.trans
     ·
      iterate 3
       apply RegT.T_pure rfl rfl rfl
       · intro W hR; have h0 := Keeps.cell hR.block hb0; have h1 := Keeps.cell hR.block n8; clear hR; go_simp; rfl
       simp only [List.set_cons_succ, List.set_cons_zero, Nat.reduceAdd]
      apply RegT.T_pred rfl rfl rfl (OBn [] wa.heap.size) (fun _ _ h => h) (fun y x z hR h => h.keeps hR.block)
      · intro W hR hf0
        obtain ⟨v', w', hr, hd, hg⟩ := nil_append (B0 := wa.heap.size) (ty := 29) (Hdat.out W hR) (by decide) hR.size
        exact append_ok (.const (.slice none 0 0)) (.tmp 118) rfl rfl rfl hr ⟨hd, hg⟩
      intro v119
      simp only [List.set_cons_succ, List.set_cons_zero, Nat.reduceAdd]
      iterate 4
       apply RegT.T_pure rfl rfl rfl
       · intro W hR; clear hR; go_simp; rfl
       simp only [List.set_cons_succ, List.set_cons_zero, Nat.reduceAdd]
      refine RegT.T_tail (fun wb hR hf0 => ?_)
      obtain ⟨p1, c1, rfl, hd1⟩ := (show OBn [] wa.heap.size v119 wb from hf0 _ (.head _) (.inl rfl))
      have HSB := zh (HSA.out.drew.below hR)
      clear hR hf0 hd1 n8 hb0 HSA Hdat
      generalize ext own7 wa.drew.heap.size 9 = ownb at *
      have q11 := HSB.out.st.c 11
      have z11 := HSB.out.st.frozen 11
      have q11' : wb.cell? ⟨q, 11, none⟩ = some (.slice x2.f8p x2.f8n x2.f8c) := q11
      clear q11
      go_upto_region 14 with (fail)
      have HSC := zh (HSB.out.step (HSB.out.st.setq 11 (.slice p1 0 c1) { x2 with f8p := p1, f8n := 0, f8c := c1 } RS.Ou.none rfl ⟨HSB.out.st.ov.an, HSB.out.st.ov.se, HSB.out.st.ov.ne⟩) (Mv.set (a := ⟨q, 11, none⟩) (Or.inr HSB.out.st.oq) _))
      clear HSB q11' z11
      generalize wb.setCell ⟨q, 11, none⟩ (.slice p1 0 c1) = wc at *
      have n3 : wc.cell? ⟨w.heap.size + 1 + 1, 3, none⟩ = some (.int .u64 (nt.index : Int)) := HSC.out.c.c 3
      have Ha := zh (answer_w ownb i p q _ t0 who0 { r2 with commit := nt.index } _ RS.Ou.none wc HSC.out.st w.heap.size (w.heap.size + 1) f nt.index true HSC.out.a HSC.out.b (Nat.zero_le _))
      go_wp2_with (go_at_call 131; refine (Ha.out).mono ?_; rintro e w9 ⟨⟨v, rfl⟩, k9⟩; have HK := zh k9; clear k9)
      refine bodyPost_ret (results_none rfl _ _ _) rfl ?_
      rw [HV.out, HL.out]
      subst hr2
      exact ⟨⟨_, rfl⟩, HSC.out.fin HK.out⟩
     · rfl
     · kernel_rfl
   · rfl
   · kernel_rfl
set_option maxRecDepth 100000 in
set_option maxHeartbeats 40000000 in
theorem led_x_w (own : Own) (i p q g t0 : Nat) (who0 : Int) (r : RS.Rf) (x : Ov) (w : World) (h : StAt own w i p q g t0 who0 r x RS.Ou.none) (M : Nat) (hb : Nb M r) (hM : M ≤ 90000) (f : Nat) (hf : f < 7) (nt : RS.Nt) (pl pd : Option Addr) (nl cl nd cd : Nat)
 (hL : EsR w (Frn own i) (.slice pl nl cl) nt.list) (hD : DatA w (Frn own i) (.slice pd nd cd) []) (hln : nt.list.length ≤ 16) (hle : ∀ e ∈ nt.list, e.2.length ≤ 1000000) (hix : nt.index ≤ 4611686018427387904) (hcm : nt.commit ≤ 4611686018427387904) (hat : nt.at_ < 2 ^ 64) (d : Nat) (hd : d < 2 ^ 64) (h7 : ¬ nt.kind = 7) :
 Calls Try.prog 121 #[.pointer (some ⟨q, 0, none⟩), .int .i64 (f : Int), .agg #[.int .u8 (nt.kind : Int), .int .u64 (nt.term : Int), .int .u64 (nt.round : Int), .int .u64 (nt.index : Int), .int .u64 (nt.at_ : Int), .int .u64 (nt.commit : Int), .bool nt.yes, .slice pl nl cl, .slice pd nd cd], .int .u64 (d : Int)] w fun e w' => (∃ v, e = .returned v) ∧ Stq own w (fun l => l = i ∨ l = 7) i p q t0 who0 (r.led f nt d).1 (r.led f nt d).2 w' := by
 have H7 := zh h7
 clear h7
 have HLE := zh hle
 clear hle
 have hi7 := h.nd.hi
 have Hb := zh hb
 have HS1 := zh (LedC.start (nt := nt) h f hL hD)
 obtain ⟨w1, hw1⟩ : ∃ w1, (((w.alloc (.cells #[.pointer (some ⟨q, 0, none⟩)] 159)).alloc (.cells #[.int .i64 (f : Int)] 3)).alloc (.cells #[.int .u8 (nt.kind : Int), .int .u64 (nt.term : Int), .int .u64 (nt.round : Int), .int .u64 (nt.index : Int), .int .u64 (nt.at_ : Int), .int .u64 (nt.commit : Int), .bool nt.yes, .slice pl nl cl, .slice pd nd cd] 31)) = w1 := ⟨_, rfl⟩
 unfold nca at HS1
 rw [hw1] at HS1
 have HW := zh hw1
 have HT2 := zh hb.T2
 clear h hw1 hL hD hb
 generalize ext own w.heap.size 9 = own1 at *
 have Hfo := zh (follow_w own1 i p q g t0 who0 r x RS.Ou.none w1 HS1.out.st HT2.out d hd)
 go_enter Try.func121, Try.ntmps121
 go_upto_region 1 with (fail)
 rw [HW.out]
 have hb0 := HS1.out.a.c0
 go_upto_region 2 with (go_at_call 117; refine (Hfo.out).mono ?_; rintro e w2 ⟨⟨v, rfl⟩, h2, m2⟩; have HS2 := zh (HS1.out.step h2 (m2.mono fun l e => .inl e)); clear h2 m2; clear hb0)
 clear HS1 Hfo HW HT2
 have hb0 := HS2.out.a.c0
 have hb1 := HS2.out.b.c0
 have hq0 := HS2.out.st.q0
 have hp8 := HS2.out.st.nd.cleader
 have hp10 := HS2.out.st.nd.cquiet
 have hf8 := HS2.out.st.nd.frozen 8
 have hf10 := HS2.out.st.nd.frozen 10
 have hne := HS2.out.st.ne
 have hn0 := HS2.out.st.bxnp HS2.out.a
 have hn1 := HS2.out.st.bxnp HS2.out.b
 go_region_held3 (fun w' => w'.cell? ⟨w.heap.size, 0, none⟩ = some (.pointer (some ⟨q, 0, none⟩)) ∧ w'.cell? ⟨q, 0, none⟩ = some (.pointer (some ⟨p, 0, none⟩)) ∧ w'.cell? ⟨w.heap.size + 1, 0, none⟩ = some (.int .i64 (f : Int))) (go_keep) (fail)
 rename_i hHeld
 clear hHeld
 have HS3 := zh ((HS2.out.step ((HS2.out.st.setp 8 (.int .i64 (f : Int)) { r.follow d with leader := (f : Int) } rfl rfl rfl rfl).setp 10 (.int .i64 0) { r.follow d with leader := (f : Int), quiet := 0 } rfl rfl rfl rfl)
  (((Mv.set (L := fun l => l = i) (a := ⟨p, 8, none⟩) HS2.out.st.nd.op _).trans (Mv.set (L := fun l => l = i) (a := ⟨p, 10, none⟩) HS2.out.st.nd.op _)).mono fun l e => .inl e)).drew)
 clear hb0 hb1 hq0 hp8 hp10 hf8 hf10 HS2
 generalize ((w2.setCell ⟨p, 8, none⟩ (.int .i64 (f : Int))).setCell ⟨p, 10, none⟩ (.int .i64 0)).drew = w3 at *
 have n0 : w3.cell? ⟨w.heap.size + 1 + 1, 0, none⟩ = some (.int .u8 (nt.kind : Int)) := HS3.out.c.c 0
 have HV := zh (show r.led f nt d = RS.Rf.led1 ({ r.follow d with leader := (f : Int), quiet := 0 } : RS.Rf) f nt from rfl)
 have hB1 : ({ r.follow d with leader := (f : Int), quiet := 0 } : RS.Rf).base ≤ M := Hb.out.base
 have hB2 : ({ r.follow d with leader := (f : Int), quiet := 0 } : RS.Rf).es.length ≤ M := Hb.out.len
 have hB3 : ({ r.follow d with leader := (f : Int), quiet := 0 } : RS.Rf).commit ≤ M := Hb.out.commit
 generalize ({ r.follow d with leader := (f : Int), quiet := 0 } : RS.Rf) = r1 at *
 have k1 : (nt.kind == 7) = false := by simp [H7.out]
 have k2 : ((nt.kind : Int) == 7) = false := by have := H7.out; simp; omega
 obtain ⟨⟨k, add, me⟩, hm⟩ : ∃ y, RS.meetR r1.base r1.bt r1.es nt.index nt.at_ nt.list = y := ⟨_, rfl⟩
 obtain ⟨an, han⟩ : ∃ n, n = add.length := ⟨_, rfl⟩
 have HM' := zh hm
 have hm3 := meet_three hm
 have Hm3 := zh hm3
 clear hm hm3
 have hix64 : nt.index < 2 ^ 64 := by omega
 have Hlen := zh (show r1.es.length ≤ 1000000 by omega)
 have Htip := zh (HS3.out.st.nd.tk.elim fun v htk => tip_w _ g r1.base r1.bt v r1.es w3 htk Hlen.out)
 obtain ⟨last, hlast⟩ : ∃ n, n = r1.base + r1.es.length := ⟨_, rfl⟩
 rw [← hlast] at Htip
 have hlM : last ≤ 180000 := by omega
 have Hl := zh hlast
 clear hlast
 have hb0 := HS3.out.a.c0
 have hq0 := HS3.out.st.q0
 have hp5 := HS3.out.st.nd.ctk
 go_upto_region 16 with (go_at_call 23; refine (Htip.out).mono ?_; rintro e w4 ⟨rfl, hB⟩; have HS4 := zh (HS3.out.below hB); clear hB hb0 hq0 hp5 n0)
 clear HS3 Htip
 generalize ext own1 w3.heap.size 9 = own4 at *
 have Hbase := zh (HS4.out.st.nd.tk.elim fun v htk => base_w _ g r1.base r1.bt v r1.es w4 htk)
 have hb0 := HS4.out.a.c0
 have hq0 := HS4.out.st.q0
 have hp5 := HS4.out.st.nd.ctk
 go_upto_region 17 with (go_at_call 42; refine (Hbase.out).mono ?_; rintro e w5 ⟨rfl, hB⟩; have HS5 := zh (HS4.out.below hB); clear hB hb0 hq0 hp5)
 clear HS4 Hbase
 generalize ext own4 w4.heap.size 9 = own5 at *
 have hb0 := HS5.out.a.c0
 have hq0 := HS5.out.st.q0
 have hp5 := HS5.out.st.nd.ctk
 have n7 : w5.cell? ⟨w.heap.size + 1 + 1, 7, none⟩ = some (.slice pl nl cl) := HS5.out.c.c 7
 have n3 : w5.cell? ⟨w.heap.size + 1 + 1, 3, none⟩ = some (.int .u64 (nt.index : Int)) := HS5.out.c.c 3
 have n4 : w5.cell? ⟨w.heap.size + 1 + 1, 4, none⟩ = some (.int .u64 (nt.at_ : Int)) := HS5.out.c.c 4
 have Hmt := zh (fun (W : World) (hR : RegT.Grow w5.drew W) => HS5.out.st.nd.tk.elim fun v htk => meet_w _ _ g r1.base r1.bt nt.index nt.at_ v (.slice pl nl cl) r1.es nt.list W ((htk.keeps (Keeps.refl w5).drew).keeps hR.block) ((HS5.out.l.keeps (Keeps.refl w5).drew).keeps hR.block) hix64 hat (by omega) HLE.out)
 have Han := zh (show an = List.length (add : List Ent) from han)
 rw [← meetR_rs, HM'.out] at Hmt
 clear han
 have Hnl := zh (show nl = nt.list.length by obtain ⟨_, _, e⟩ := HS5.out.l.len; cases e; rfl)
 have hnl16 : nl ≤ 16 := by rw [Hnl.out]; exact hln
 apply RegT.wp_region_T rfl 266 21 rfl (by kernel_rfl) RegT.Grow RegT.Grow.refl RegT.Grow.trans
 ·
  iterate 13
   apply RegT.T_pure rfl rfl rfl
   · intro W hR; have h0 := Keeps.cell hR.block hb0; have h1 := Keeps.cell hR.block hq0; have h2 := Keeps.cell hR.block hp5; have h3 := Keeps.cell hR.block n3; have h4 := Keeps.cell hR.block n4; have h5 := Keeps.cell hR.block n7; clear hR; go_simp; rfl
   simp only [List.set_cons_succ, List.set_cons_zero, Nat.reduceAdd]
  apply RegT.T_pred rfl rfl rfl (MeetU k an add me w5.heap.size) (fun _ _ h => h) (fun y x z hR h => h.keeps hR.block)
  · intro W hR hf0
    have Hc := zh (Hmt.out W hR)
    have hsz := zh (show w5.heap.size ≤ W.heap.size from hR.size)
    clear hR hf0
    go_simp
    refine RegT.OpOK_enter Hc.out (fun e w' ⟨av, he, hl, hB⟩ => ⟨_, he, ?_, hB⟩)
    obtain ⟨pa, ca, rfl⟩ := hl.len
    rw [← Han.out] at hl ⊢
    exact ⟨pa, ca, rfl, hl.mono fun b _ hb => Nat.le_trans hsz.out hb⟩
  intro v164
  simp only [List.set_cons_succ, List.set_cons_zero, Nat.reduceAdd]
  apply RegT.T_pred rfl rfl rfl (MeetU k an add me w5.heap.size) (fun _ _ h => h) (fun y x z hR h => h.keeps hR.block)
  · intro W hR hf0
    obtain ⟨pa, ca, rfl, hl⟩ := (show MeetU k an add me w5.heap.size v164 W from hf0 _ (.head _) (by kernel_rfl) (.inl rfl))
    have Hl2 := zh hl
    clear hR hf0 hl
    go_simp
    exact RegT.OpOK_value ⟨⟨_, _, rfl, Hl2.out⟩, Below.refl _ _⟩
  intro v150
  simp only [List.set_cons_succ, List.set_cons_zero, Nat.reduceAdd]
  apply RegT.T_const rfl rfl rfl (.int .u64 (k : Int)) (fun _ _ h => h)
  · intro W hR hf0
    obtain ⟨pa, ca, rfl, hl⟩ := (show MeetU k an add me w5.heap.size v150 W from hf0 _ (.head _) (by kernel_rfl) (.inl rfl))
    clear hR hf0 hl
    go_simp
    exact RegT.OpOK_value ⟨rfl, Below.refl _ _⟩
  simp only [List.set_cons_succ, List.set_cons_zero, Nat.reduceAdd]
  apply RegT.T_pred rfl rfl rfl (AddU an add w5.heap.size) (fun _ _ h => h) (fun y x z hR h => h.keeps hR.block)
  · intro W hR hf0
    obtain ⟨pa, ca, rfl, hl⟩ := (show MeetU k an add me w5.heap.size v150 W from hf0 _ (.head _) (by kernel_rfl) (.inl rfl))
    have Hl2 := zh hl
    clear hR hf0 hl
    go_simp
    exact RegT.OpOK_value ⟨⟨_, _, rfl, Hl2.out⟩, Below.refl _ _⟩
  intro v166
  simp only [List.set_cons_succ, List.set_cons_zero, Nat.reduceAdd]
  apply RegT.T_const rfl rfl rfl (.int .i64 me) (fun _ _ h => h)
  · intro W hR hf0
    obtain ⟨pa, ca, rfl, hl⟩ := (show MeetU k an add me w5.heap.size v150 W from hf0 _ (.tail _ (.head _)) (by kernel_rfl) (.inl rfl))
    clear hR hf0 hl
    go_simp
    exact RegT.OpOK_value ⟨rfl, Below.refl _ _⟩
  simp only [List.set_cons_succ, List.set_cons_zero, Nat.reduceAdd]
  iterate 3
   apply RegT.T_pure rfl rfl rfl
   · intro W hR; clear hR; go_simp; rfl
   simp only [List.set_cons_succ, List.set_cons_zero, Nat.reduceAdd]
  refine RegT.T_end rfl (fun w6 hS hf0 => ?_)
  obtain ⟨pa, ca, rfl, hl⟩ := (show AddU an add w5.heap.size v166 w6 from hf0 _ (.head _) (.inl rfl))
  have HS6 := zh (HS5.out.drew.below hS)
  have HA6 := zh (show EsR w6 (Frn (ext own5 w5.drew.heap.size 9) i) (.slice pa an ca) add from hl.mono fun b _ hb => (by have hb : w5.drew.heap.size ≤ b := hb; unfold Frn; rw [ext_ge hb]; omega))
  clear hS hf0 hl n3 n4 n7 hb0 hq0 hp5 HS5 Hmt
  generalize ext own5 w5.drew.heap.size 9 = own6 at *
  have hb0 := HS6.out.a.c0
  have hq0 := HS6.out.st.q0
  rcases Hm3.out with ⟨rfl, rfl, rfl⟩ | ⟨rfl, rfl, rfl⟩ | rfl
  · obtain rfl : an = 0 := Han.out
    have HL := zh (led1_e (r := r1) (f := f) H7.out (by rw [HM'.out]))
    go_upto_region 21 with (fail)
    have Ha := zh (answer_w own6 i p q _ t0 who0 r1 x RS.Ou.none w6 HS6.out.st w.heap.size (w.heap.size + 1) f r1.base true HS6.out.a HS6.out.b (Nat.zero_le _))
    go_wp2_with (go_at_call 131; refine (Ha.out).mono ?_; rintro e w9 ⟨⟨v, rfl⟩, k9⟩; have HK := zh k9; clear k9)
    refine bodyPost_ret (results_none rfl _ _ _) rfl ?_
    rw [HV.out, HL.out]
    exact ⟨⟨_, rfl⟩, HS6.out.fin HK.out⟩
  · obtain rfl : an = 0 := Han.out
    have HL := zh (led1_d (r := r1) (f := f) H7.out (by rw [HM'.out]))
    have n3 : w6.cell? ⟨w.heap.size + 1 + 1, 3, none⟩ = some (.int .u64 (nt.index : Int)) := HS6.out.c.c 3
    go_upto_region 19 with (fail)
    by_cases h1 : nt.index < 1
    · have i1 : ((nt.index : Int) < 1) := by omega
      have j1 : decide ((nt.index : Int) < 1) = true := by simp; omega
      have j2 : decide (nt.index < 1) = true := by simp; omega
      have i4 : ¬ ((last : Int) < 0) := by omega
      have j4 : decide ((last : Int) < 0) = false := by simp
      have j5 : decide (last < 0) = false := by simp
      have Ha := zh (answer_w own6 i p q _ t0 who0 r1 x RS.Ou.none w6 HS6.out.st w.heap.size (w.heap.size + 1) f 0 false HS6.out.a HS6.out.b (Nat.zero_le _))
      have Hv := zh (show min (max nt.index 1 - 1) r1.last = 0 by have h1 : r1.last = r1.base + r1.es.length := rfl; have h2 := Hl.out; omega)
      clear h1
      go_wp2_with (go_at_call 131; refine (Ha.out).mono ?_; rintro e w9 ⟨⟨v, rfl⟩, k9⟩; have HK := zh k9; clear k9)
      refine bodyPost_ret (results_none rfl _ _ _) rfl ?_
      rw [HV.out, HL.out, Hv.out]
      exact ⟨⟨_, rfl⟩, HS6.out.fin HK.out⟩
    · by_cases h3 : last < max nt.index 1 - 1
      · have i1 : ¬ ((nt.index : Int) < 1) := by omega
        have j1 : decide ((nt.index : Int) < 1) = false := by simp; omega
        have j2 : decide (nt.index < 1) = false := by simp; omega
        obtain ⟨m1, hm1⟩ : ∃ n, n = max nt.index 1 - 1 := ⟨_, rfl⟩
        have j3 : IntKind.u64.wrap ((nt.index : Int) - 1) = (m1 : Int) := by rw [IntWalk.u64_in _ (by omega)]; omega
        have i4 : ((last : Int) < (m1 : Int)) := by omega
        have j4 : decide ((last : Int) < (m1 : Int)) = true := by simp; omega
        have j5 : decide (last < m1) = true := by simp; omega
        have Ha := zh (answer_w own6 i p q _ t0 who0 r1 x RS.Ou.none w6 HS6.out.st w.heap.size (w.heap.size + 1) f last false HS6.out.a HS6.out.b (Nat.zero_le _))
        have Hv := zh (show min (max nt.index 1 - 1) r1.last = last by have h1 : r1.last = r1.base + r1.es.length := rfl; have h2 := Hl.out; omega)
        clear h1 h3 hm1
        go_wp2_with (go_at_call 131; refine (Ha.out).mono ?_; rintro e w9 ⟨⟨v, rfl⟩, k9⟩; have HK := zh k9; clear k9)
        refine bodyPost_ret (results_none rfl _ _ _) rfl ?_
        rw [HV.out, HL.out, Hv.out]
        exact ⟨⟨_, rfl⟩, HS6.out.fin HK.out⟩
      · have i1 : ¬ ((nt.index : Int) < 1) := by omega
        have j1 : decide ((nt.index : Int) < 1) = false := by simp; omega
        have j2 : decide (nt.index < 1) = false := by simp; omega
        obtain ⟨m1, hm1⟩ : ∃ n, n = max nt.index 1 - 1 := ⟨_, rfl⟩
        have j3 : IntKind.u64.wrap ((nt.index : Int) - 1) = (m1 : Int) := by rw [IntWalk.u64_in _ (by omega)]; omega
        have i4 : ¬ ((last : Int) < (m1 : Int)) := by omega
        have j4 : decide ((last : Int) < (m1 : Int)) = false := by simp; omega
        have j5 : decide (last < m1) = false := by simp; omega
        have Ha := zh (answer_w own6 i p q _ t0 who0 r1 x RS.Ou.none w6 HS6.out.st w.heap.size (w.heap.size + 1) f m1 false HS6.out.a HS6.out.b (Nat.zero_le _))
        have Hv := zh (show min (max nt.index 1 - 1) r1.last = m1 by have h1 : r1.last = r1.base + r1.es.length := rfl; have h2 := Hl.out; omega)
        clear h1 h3 hm1
        go_wp2_with (go_at_call 131; refine (Ha.out).mono ?_; rintro e w9 ⟨⟨v, rfl⟩, k9⟩; have HK := zh k9; clear k9)
        refine bodyPost_ret (results_none rfl _ _ _) rfl ?_
        rw [HV.out, HL.out, Hv.out]
        exact ⟨⟨_, rfl⟩, HS6.out.fin HK.out⟩
  · refine or2 (Decidable.em (0 < add.length)) ?lp ?lz
    case' lp =>
     intro hne
     have HNE := zh hne
     have hne' : add ≠ [] := by intro e; subst e; exact absurd hne (Nat.lt_irrefl 0)
     have Hne := zh hne'
     have Hma := zh (meet_add HM'.out hne')
     clear hne hne'
     have hanl : an ≤ 16 := by obtain ⟨_, j, e, _⟩ := Hma.out; have h1 := congrArg List.length e; have := Han.out; rw [List.length_drop] at h1; omega
     have HEl := zh (show ∀ e ∈ add, e.2.length ≤ 1000000 from fun e he => by obtain ⟨_, j, e2, _⟩ := Hma.out; rw [e2] at he; exact HLE.out e (List.mem_of_mem_drop he))
     have hp6 := HS6.out.st.nd.ccommit
     have a1 : decide ((0 : Int) < (an : Int)) = true := by have := HNE.out; simp; have := Han.out; omega
     have a2 : decide (0 < an) = true := by have := HNE.out; simp; have := Han.out; omega
     by_cases hkc : k < r1.commit
     · have HL := zh (led1_f (r := r1) (f := f) H7.out HM'.out Hne.out hkc)
       have a3 : decide ((k : Int) < (r1.commit : Int)) = true := by simp; omega
       have a4 : decide (k < r1.commit) = true := by simp; omega
       clear hkc
       go_wp2_with (fail)
       refine bodyPost_ret (results_none rfl _ _ _) rfl ?_
       rw [HV.out, HL.out]
       exact ⟨⟨_, rfl⟩, _, _, _, HS6.out.st, HS6.out.m⟩
     have HKC := zh hkc
     have a3 : decide ((k : Int) < (r1.commit : Int)) = false := by simp; omega
     have a4 : decide (k < r1.commit) = false := by simp; omega
     clear hkc
     refine or2 (Decidable.em (k < last)) ?lh ?li
     case' lh =>
      intro hkl
      have HKL' := zh (show k < r1.base + r1.es.length by rw [← Hl.out]; exact hkl)
      have b1 : decide ((k : Int) < (last : Int)) = true := by simp; omega
      have b2 : decide (k < last) = true := by simp; omega
      clear hkl
      have hp5 := HS6.out.st.nd.ctk
      have hmay : mayI r1.base r1.es.length k = true := by have h1 := Hma.out.1; have h2 := HKL'.out; have h3 := Hl.out; unfold mayI; simp; omega
      have Hcut := zh (HS6.out.st.nd.tk.elim fun v htk => cut_ok_w _ g r1.base r1.bt k v r1.es w6 htk hmay)
      clear hmay
      go_upto_region 26 with (go_at_call 26; refine (Hcut.out).mono ?_; rintro e w7 ⟨rfl, hk7, t7⟩; have HK7 := zh (And.intro hk7 t7); clear hk7 t7)
      have HP7 := zh (HS6.out.packedM (r' := { r1 with es := r1.es.take (k - r1.base) }) rfl HK7.out.2 (HK7.out.1.elim fun v hk => ⟨v, hk.mono fun b _ h1 => .inl h1⟩))
      have HA7 := zh (Frn.mv (footed_esr _ _) HA6.out HP7.out.2)
      clear HS6 HK7 Hcut HA6 a1 a2 a3 a4 b1 b2 hp6 hb0 hq0 hp5
      generalize ext own6 w6.heap.size i = own7 at *
      have hb0 := HP7.out.1.a.c0
      have hqa := HP7.out.1.st.bxne HP7.out.1.a
      have q12 : w7.cell? ⟨q, 12, none⟩ = some (.bool x.cu) := HP7.out.1.st.c 12
      have q13 : w7.cell? ⟨q, 13, none⟩ = some (.int .u64 x.ke) := HP7.out.1.st.c 13
      have z12 := HP7.out.1.st.frozen 12
      have z13 := HP7.out.1.st.frozen 13
      go_region_held3 (fun w' => w'.cell? ⟨w.heap.size, 0, none⟩ = some (.pointer (some ⟨q, 0, none⟩))) (go_keep) (fail)
      rename_i hHeld
      clear hHeld
      have Hm8 := zh (((Mv.set (L := fun l => l = i ∨ l = 7) (a := ⟨q, 12, none⟩) (Or.inr HP7.out.1.st.oq) (.bool true)).trans (Mv.set (w := w7.setCell ⟨q, 12, none⟩ (.bool true)) (a := ⟨q, 13, none⟩) (Or.inr HP7.out.1.st.oq) (.int .u64 (k : Int)))).trans (Mv.drew _ _ _))
      have Hc8 := zh (HP7.out.1.st.setq 12 (.bool true) { x with cu := true } RS.Ou.none rfl ⟨HP7.out.1.st.ov.an, HP7.out.1.st.ov.se, HP7.out.1.st.ov.ne⟩)
      have HS8 := zh (HP7.out.1.step (((Hc8.out).setq 13 (.int .u64 (k : Int)) { x with cu := true, ke := (k : Int) } RS.Ou.none rfl ⟨Hc8.out.ov.an, Hc8.out.ov.se, Hc8.out.ov.ne⟩).drew) Hm8.out)
      have HA8 := zh (Frn.mv (footed_esr _ _) HA7.out Hm8.out)
      clear HP7 HA7 Hm8 Hc8 hb0 hqa q12 q13 z12 z13
      generalize ((w7.setCell ⟨q, 12, none⟩ (.bool true)).setCell ⟨q, 13, none⟩ (.int .u64 (k : Int))).drew = w8 at *
      go_upto_region 27 with (fail)
      have hb0 := HS8.out.a.c0
      have hq0 := HS8.out.st.q0
      have hp5 := HS8.out.st.nd.ctk
      have h9 : (r1.es.take (k - r1.base)).length ≤ r1.es.length := by rw [List.length_take]; omega
      have Hadd := zh (HS8.out.st.nd.tk.elim fun v htk => add_w _ (Frn own7 i) g r1.base r1.bt v (.slice pa an ca) (r1.es.take (k - r1.base)) add w8 htk HA8.out (fun b _ h1 h2 => h1.1 h2.1) (by have := Han.out; omega) HEl.out)
      rw [List.take_of_length_le (show add.length ≤ 18446744073709551615 - (r1.base + (r1.es.take (k - r1.base)).length) by have := Han.out; omega)] at Hadd
      clear h9
      go_upto_region 28 with (go_at_call 27; refine (Hadd.out).mono ?_; rintro e wg ⟨⟨xv, rfl⟩, vg, hkg, tg⟩; have HKg := zh (And.intro hkg tg); clear hkg tg)
      have HG := zh (HS8.out.packedM (r' := { r1 with es := r1.es.take (k - r1.base) ++ add }) rfl HKg.out.2 ⟨vg, HKg.out.1⟩)
      clear HS8 HA8 HKg Hadd hb0 hq0 hp5
      generalize ext own7 w8.heap.size i = owng at *
      have hb0 := HG.out.1.a.c0
      have q14 := HG.out.1.st.c 14
      have z14 := HG.out.1.st.frozen 14
      have q14' : wg.cell? ⟨q, 14, none⟩ = some (.slice x.ap x.an x.ac) := q14
      clear q14
      go_upto_region 29 with (fail)
      have HSA := zh (HG.out.1.step (HG.out.1.st.setq 14 (.slice pa an ca) _ _ rfl (HG.out.1.st.ov.adds pa an ca add Han.out)) (Mv.set (a := ⟨q, 14, none⟩) (Or.inr HG.out.1.st.oq) _))
      clear HG q14' z14 hb0
      generalize wg.setCell ⟨q, 14, none⟩ (.slice pa an ca) = wa at *
      have HC1 := HSA.out.st.nd.ccommit
     case' li =>
      intro hkl
      have HKL' := zh (show ¬ k < r1.base + r1.es.length by rw [← Hl.out]; exact hkl)
      have b1 : decide ((k : Int) < (last : Int)) = false := by simp; omega
      have b2 : decide (k < last) = false := by simp; omega
      clear hkl
      go_upto_region 27 with (fail)
      clear a1 a2 a3 a4 b1 b2 hp6 hb0 hq0
      have hb0 := HS6.out.a.c0
      have hq0 := HS6.out.st.q0
      have hp5 := HS6.out.st.nd.ctk
      have h9 : r1.es.length ≤ r1.es.length := Nat.le_refl _
      have Hadd := zh (HS6.out.st.nd.tk.elim fun v htk => add_w _ (Frn own6 i) g r1.base r1.bt v (.slice pa an ca) r1.es add w6 htk HA6.out (fun b _ h1 h2 => h1.1 h2.1) (by have := Han.out; omega) HEl.out)
      rw [List.take_of_length_le (show add.length ≤ 18446744073709551615 - (r1.base + r1.es.length) by have := Han.out; omega)] at Hadd
      clear h9
      go_upto_region 28 with (go_at_call 27; refine (Hadd.out).mono ?_; rintro e wg ⟨⟨xv, rfl⟩, vg, hkg, tg⟩; have HKg := zh (And.intro hkg tg); clear hkg tg)
      have HG := zh (HS6.out.packedM (r' := { r1 with es := r1.es ++ add }) rfl HKg.out.2 ⟨vg, HKg.out.1⟩)
      clear HS6 HA6 HKg Hadd hb0 hq0 hp5
      generalize ext own6 w6.heap.size i = owng at *
      have hb0 := HG.out.1.a.c0
      have q14 := HG.out.1.st.c 14
      have z14 := HG.out.1.st.frozen 14
      have q14' : wg.cell? ⟨q, 14, none⟩ = some (.slice x.ap x.an x.ac) := q14
      clear q14
      go_upto_region 29 with (fail)
      have HSA := zh (HG.out.1.step (HG.out.1.st.setq 14 (.slice pa an ca) _ _ rfl (HG.out.1.st.ov.adds pa an ca add Han.out)) (Mv.set (a := ⟨q, 14, none⟩) (Or.inr HG.out.1.st.oq) _))
      clear HG q14' z14 hb0
      generalize wg.setCell ⟨q, 14, none⟩ (.slice pa an ca) = wa at *
      have HC1 := HSA.out.st.nd.ccommit
      have Hes := zh (show r1.es ++ add = r1.es.take (k - r1.base) ++ add by rw [List.take_of_length_le (by have h1 := HKL'.out; omega)])
      rw [Hes.out] at HSA
     all_goals
      have HX : Hid (∃ r9 x9 o9, LedC own w owng wa i p q g t0 who0 r9 x9 o9 w.heap.size f nt pl pd nl cl nd cd ∧ r9.commit = r1.commit ∧ o9.send.length = 0 ∧ ∀ th c, th = nt.index + nt.list.length → c = max r1.commit (min nt.commit th) → RS.Rf.led1 r1 f nt = (({ r9 with commit := c } : RS.Rf), ({ r9 with commit := c } : RS.Rf).answer o9 f th true)) := zh ⟨_, _, _, HSA.out, rfl, rfl, fun th c h1 h2 => led1_h H7.out HM'.out Hne.out HKC.out h1 h2⟩
      clear HSA HC1
    case' lz =>
     intro hne
     have e : add = [] := List.eq_nil_of_length_eq_zero (by have := Han.out; omega)
     subst e
     obtain rfl : an = 0 := Han.out
     clear hne
     go_upto_region 29 with (fail)
     clear hb0 hq0
     generalize own6 = owng at *
     generalize w6 = wa at *
     have HX : Hid (∃ r9 x9 o9, LedC own w owng wa i p q g t0 who0 r9 x9 o9 w.heap.size f nt pl pd nl cl nd cd ∧ r9.commit = r1.commit ∧ o9.send.length = 0 ∧ ∀ th c, th = nt.index + nt.list.length → c = max r1.commit (min nt.commit th) → RS.Rf.led1 r1 f nt = (({ r9 with commit := c } : RS.Rf), ({ r9 with commit := c } : RS.Rf).answer o9 f th true)) := zh ⟨_, _, _, HS6.out, rfl, rfl, fun th c h1 h2 => led1_g H7.out HM'.out h1 h2⟩
     clear HS6 HA6
    all_goals
     obtain ⟨r9, x9, o9, hs9, hc9, ho9, hl9⟩ := HX.out
     have HSA := zh hs9
     have HC1 : wa.cell? ⟨p, 6, none⟩ = some (.int .u64 (r1.commit : Int)) := by rw [← hc9]; exact hs9.st.nd.ccommit
     have HL9 := zh hl9
     have Ho9 := zh ho9
     clear hs9 hc9 ho9 hl9 HX
     obtain ⟨th, hth⟩ : ∃ n, n = nt.index + nl := ⟨_, rfl⟩
     have n7 : wa.cell? ⟨w.heap.size + 1 + 1, 7, none⟩ = some (.slice pl nl cl) := HSA.out.c.c 7
     have n3 : wa.cell? ⟨w.heap.size + 1 + 1, 3, none⟩ = some (.int .u64 (nt.index : Int)) := HSA.out.c.c 3
     have c1 : IntKind.u64.wrap (nl : Int) = (nl : Int) := IntWalk.u64_in _ (by omega)
     have c2 : IntKind.u64.wrap ((nt.index : Int) + (nl : Int)) = (nt.index : Int) + (nl : Int) := IntWalk.u64_in _ (by omega)
     go_upto_region 30 with (fail)
     have hte : ((nt.index : Int) + (nl : Int)) = (th : Int) := by omega
     rw [hte]
     clear hte
     have Hth := zh (show th = nt.index + nt.list.length by rw [← Hnl.out]; exact hth)
     have hthb : th ≤ 4611686018427387920 := by omega
     clear n7 n3 c1 c2 hth
     have n5 : wa.cell? ⟨w.heap.size + 1 + 1, 5, none⟩ = some (.int .u64 (nt.commit : Int)) := HSA.out.c.c 5
     have hb0 := HSA.out.a.c0
     have hq0 := HSA.out.st.q0
     have hp6 : wa.cell? ⟨p, 6, none⟩ = some (.int .u64 (r1.commit : Int)) := HC1
     have hf6 := HSA.out.st.nd.frozen 6
     obtain ⟨m, hm, hc⟩ := yes_cases th nt.commit r1.commit
     rcases hc with ⟨iA, nA, iB, nB, dA, eA, dB, eB, hz⟩ | ⟨iA, nA, iB, nB, dA, eA, dB, eB, hz⟩ | ⟨iA, nA, iB, nB, dA, eA, dB, eB, hz⟩ | ⟨iA, nA, iB, nB, dA, eA, dB, eB, hz⟩
     all_goals
      have HZ := zh hz
      have Hm := zh hm
      clear hz hm
      go_still_tail 18, (by kernel_rfl)
      change wpList _ _ _ _ _ wa.drew
      have HSD := zh HSA.out.drew
      have hp6' : wa.drew.cell? ⟨p, 6, none⟩ = some (.int .u64 (r1.commit : Int)) := hp6
      have hf6' : wa.drew.frozen? ⟨p, 6, none⟩ = false := hf6
      clear n5 hb0 hq0 hp6 hf6 HSA HC1
      generalize wa.drew = wd at *
      go_upto_region 31 with (fail)
      first
       | (rw [show wd.setCell ⟨p, 6, none⟩ (.int .u64 (th : Int)) = wd.setCell ⟨p, 6, none⟩ (.int .u64 (m : Int)) from by rw [HZ.out]])
       | (rw [show wd.setCell ⟨p, 6, none⟩ (.int .u64 (nt.commit : Int)) = wd.setCell ⟨p, 6, none⟩ (.int .u64 (m : Int)) from by rw [HZ.out]])
       | (rw [show wd.setCell ⟨p, 6, none⟩ (.int .u64 (r1.commit : Int)) = wd.setCell ⟨p, 6, none⟩ (.int .u64 (m : Int)) from by rw [HZ.out]])
      have HSE := zh (HSD.out.step (HSD.out.st.setp 6 (.int .u64 (m : Int)) { r9 with commit := m } rfl rfl rfl rfl) ((Mv.set (L := fun l => l = i) (a := ⟨p, 6, none⟩) HSD.out.st.nd.op _).mono fun l e => .inl e))
      clear HSD hp6' hf6' iA nA iB nB dA dB eA eB
      generalize wd.setCell ⟨p, 6, none⟩ (.int .u64 (m : Int)) = we at *
      have Ha := zh (answer_w owng i p q _ t0 who0 { r9 with commit := m } _ o9 we HSE.out.st w.heap.size (w.heap.size + 1) f th true HSE.out.a HSE.out.b (by rw [Ho9.out]; exact Nat.zero_le _))
      go_wp2_with (go_at_call 131; refine (Ha.out).mono ?_; rintro e w9 ⟨⟨v, rfl⟩, k9⟩; have HK := zh k9; clear k9)
      go_end0
      rw [HV.out, HL9.out _ _ Hth.out Hm.out]
      exact ⟨⟨_, rfl⟩, HSE.out.fin HK.out⟩
 · rfl
 · kernel_rfl
set_option maxRecDepth 100000 in
set_option maxHeartbeats 4000000 in
theorem led_w (own : Own) (i p q g t0 : Nat) (who0 : Int) (r : RS.Rf) (x : Ov) (w : World) (h : StAt own w i p q g t0 who0 r x RS.Ou.none) (M : Nat) (hb : Nb M r) (hM : M ≤ 90000) (f : Nat) (hf : f < 7) (nt : RS.Nt) (pl pd : Option Addr) (nl cl nd cd : Nat)
 (hL : EsR w (Frn own i) (.slice pl nl cl) nt.list) (hD : DatA w (Frn own i) (.slice pd nd cd) []) (hln : nt.list.length ≤ 16) (hle : ∀ e ∈ nt.list, e.2.length ≤ 1000000) (hix : nt.index ≤ 4611686018427387904) (hcm : nt.commit ≤ 4611686018427387904) (hat : nt.at_ < 2 ^ 64) (d : Nat) (hd : d < 2 ^ 64) :
 Calls Try.prog 121 #[.pointer (some ⟨q, 0, none⟩), .int .i64 (f : Int), .agg #[.int .u8 (nt.kind : Int), .int .u64 (nt.term : Int), .int .u64 (nt.round : Int), .int .u64 (nt.index : Int), .int .u64 (nt.at_ : Int), .int .u64 (nt.commit : Int), .bool nt.yes, .slice pl nl cl, .slice pd nd cd], .int .u64 (d : Int)] w fun e w' => (∃ v, e = .returned v) ∧ Stq own w (fun l => l = i ∨ l = 7) i p q t0 who0 (r.led f nt d).1 (r.led f nt d).2 w' := by
 by_cases h7 : nt.kind = 7
 · exact led_7_w own i p q g t0 who0 r x w h M hb hM f hf nt pl pd nl cl nd cd hL hD hln hle hix hcm hat d hd h7
 · exact led_x_w own i p q g t0 who0 r x w h M hb hM f hf nt pl pd nl cl nd cd hL hD hln hle hix hcm hat d hd h7
end
end Go.Proofs.Yteellfgiejnigaa
