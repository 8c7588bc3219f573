/- RaftSafe: H40. -/
import Derived.Test.YteellfgiejnigaaQtA00
import Derived.Test.YteellfgiejnigaaQtA28
import Derived.Test.YteellfgiejnigaaQtA32
import Derived.BigQuiet
import Derived.Deep.Cut
import Derived.Deep.QuietTactic
namespace Go.Proofs.Yteellfgiejnigaa
open Go.ChangeShapes Go.WideShapes Go.ChangeAt Go.RowKit
set_option linter.unusedVariables false
section
variable {own0 own own' : Own} {w0 w w' : World} {i p q g g' t0 N f : Nat} {who0 : Int} {r r' : RS.Rf} {x x' : Ov} {o o' : RS.Ou} {M : Nat} {nt : RS.Nt} {pl pd : Option Addr} {nl cl nd cd : Nat}
structure HrC (own0 : Own) (w0 : World) (own : Own) (w : World) (i p q g t0 : Nat) (who0 : Int) (r : RS.Rf) (x : Ov) (o : RS.Ou) (N : Nat) (nt : RS.Nt) (pl pd : Option Addr) (nl cl nd cd : Nat) : Prop where
 st : StAt own w i p q g t0 who0 r x o
 c : Bx own w N (nca nt pl pd nl cl nd cd) 31
 z : Bx own w (N + 1) #[.bool false, .bool false, .int .u8 0, .int .u64 0, .int .u64 0, .int .u64 0, .int .u64 0, .int .u64 0, .bool false, .slice none 0 0, .slice none 0 0, .bool false, .int .u64 0, .slice none 0 0, .slice none 0 0, .slice none 0 0] 100
 l : EsR w (Frn own i) (.slice pl nl cl) nt.list
 d : DatA w (Frn own i) (.slice pd nd cd) []
 m : Mv (fun l => l = i ∨ l = 7) own0 w0 own w
theorem HrC.step (h : HrC own0 w0 own w i p q g t0 who0 r x o N nt pl pd nl cl nd cd) (s : StAt own' w' i p q g' t0 who0 r' x' o') (m : Mv (fun l => l = i ∨ l = 7) own w own' w') : HrC own0 w0 own' w' i p q g' t0 who0 r' x' o' N nt pl pd nl cl nd cd := by
 have hi := h.st.nd.hi
 have h9 : ¬ (9 = i ∨ 9 = 7) := by omega
 exact ⟨s, h.c.mv m h9, h.z.mv m h9, Frn.mv (footed_esr _ _) h.l m, Frn.mv (footed_dat _ _) h.d m, h.m.trans m⟩
theorem HrC.drewN (h : HrC own0 w0 own w i p q g t0 who0 r x o N nt pl pd nl cl nd cd) (n : Nat) : HrC own0 w0 own (w.drewN n) i p q g t0 who0 r x o N nt pl pd nl cl nd cd := h.step (h.st.mv (L := fun _ => False) (Mv.drewN own w n) id id) (Mv.drewN own w n)
theorem HrC.same (h : HrC own0 w0 own w i p q g t0 who0 r x o N nt pl pd nl cl nd cd) (hS : RegT.Same w w') : HrC own0 w0 own w' i p q g t0 who0 r x o N nt pl pd nl cl nd cd := h.step (h.st.mv (L := fun _ => False) (Mv.same0 hS) id id) (Mv.same0 hS)
theorem bx2 (own : Own) (w : World) (a b : Array Value) (ta tb : TypeId) :
 Bx (ext own w.heap.size 9) ((w.alloc (.cells a ta)).alloc (.cells b tb)) w.heap.size a ta ∧ Bx (ext own w.heap.size 9) ((w.alloc (.cells a ta)).alloc (.cells b tb)) (w.heap.size + 1) b tb ∧ Mv (fun _ => False) own w (ext own w.heap.size 9) ((w.alloc (.cells a ta)).alloc (.cells b tb)) := by
 have hB : Below w.heap.size w ((w.alloc (.cells a ta)).alloc (.cells b tb)) := ((Below.refl _ _).alloc (Nat.le_refl _) _).alloc (by simp) _
 refine ⟨⟨?_, ext_ge (Nat.le_refl _)⟩, ⟨?_, ext_ge (by omega)⟩, Mv.of_below hB 9⟩
 · rw [Below.heap_alloc _ _ _ (by simp)]; exact heap_alloc_new w _
 · have := heap_alloc_new (w.alloc (.cells a ta)) (.cells b tb)
   rwa [heap_alloc_size] at this
theorem mf_may {B : Nat} (h : RS.Mf B nt) (hB : B ≤ 4611686018427387904) : mayN ⟨nt.kind, nt.term, nt.round, nt.index, nt.at_, nt.commit, nt.yes, nt.list, []⟩ = true := by
 have h1 := h.kind
 have h2 := h.round
 have h3 := h.index
 have h4 := h.at_
 have h5 := h.commit
 have h6 := h.yes
 have h7 := h.list
 have hl : anyLong nt.list = false := by
  unfold anyLong
  rw [List.any_eq_false]
  intro e he
  have := (h7.2.2 e he).2
  simp; omega
 unfold mayN
 rw [decide_eq_true_eq]
 refine ⟨h1.1, h1.2, fun e => ?_, fun e => ?_, fun e => ?_, fun e => ?_, by show nt.index ≤ _; omega, by show nt.commit ≤ _; omega, fun e => ?_, fun e => ?_, fun _ => rfl, h7.1, Nat.zero_le _, hl⟩
 · have e1 := of_decide_eq_false e; exact h2.2 (fun h => e1 (.inl h)) (fun h => e1 (.inr h))
 · have e1 := of_decide_eq_false e; exact h3.2 (by have e2 : ¬ (nt.kind = 1 ∨ nt.kind = 3 ∨ nt.kind = 5 ∨ nt.kind = 6 ∨ nt.kind = 7) := e1; omega)
 · have e1 := of_decide_eq_false e; exact h4.2 (by have e2 : ¬ (nt.kind = 1 ∨ nt.kind = 3 ∨ nt.kind = 5 ∨ nt.kind = 7) := e1; omega)
 · exact h5.2 (of_decide_eq_false e)
 · have e1 := of_decide_eq_false e; exact h6 (by have e2 : ¬ (nt.kind = 2 ∨ nt.kind = 4 ∨ nt.kind = 6) := e1; omega)
 · exact congrArg List.length (h7.2.1 (of_decide_eq_false e))
theorem Nb.up (h : Nb M r) {t : Nat} (ht : t ≤ M) (d : Nat) : Nb M (r.up t d) := by
 unfold RS.Rf.up
 split
 · have hd : ∀ n : Nat, n = d % (r.T + 1) → n ≤ r.T := fun n e => by have := Nat.mod_lt d (show 0 < r.T + 1 by omega); omega
   have h2 := h.T2
   have hm := hd _ rfl
   split
   · exact ⟨h.hM, h.n7, h.id, h.T1, h.T2, ht, h.base, h.bt, h.len, h.es, h.commit, by show 0 ≤ 3; decide, by show (-1 : Int) ≤ -1 ∧ (-1 : Int) ≤ 6; decide, by show (-1 : Int) ≤ (r.T : Int) + ((d % (r.T + 1) : Nat) : Int) ∧ (r.T : Int) + ((d % (r.T + 1) : Nat) : Int) ≤ 50; omega, h.quiet, h.beat, by show (-1 : Int) ≤ -1 ∧ (-1 : Int) ≤ 6; decide, h.round, h.next, h.mt⟩
   · exact ⟨h.hM, h.n7, h.id, h.T1, h.T2, ht, h.base, h.bt, h.len, h.es, h.commit, by show 0 ≤ 3; decide, by show (-1 : Int) ≤ -1 ∧ (-1 : Int) ≤ 6; decide, h.left, h.quiet, h.beat, by show (-1 : Int) ≤ -1 ∧ (-1 : Int) ≤ 6; decide, h.round, h.next, h.mt⟩
 · exact h
theorem Nb.side (h : Nb M r) (f : Nat) (b : Bool) : Nb M { r with sides := fun j => if j = f then b else r.sides j } :=
 ⟨h.hM, h.n7, h.id, h.T1, h.T2, h.term, h.base, h.bt, h.len, h.es, h.commit, h.role, h.leader, h.left, h.quiet, h.beat, h.who, h.round, h.next, h.mt⟩
theorem up_role {t d : Nat} (h : (r.up t d).role = 3) : r.up t d = r := by
 unfold RS.Rf.up at h ⊢
 split
 · rename_i hl
   rw [if_pos hl] at h
   exact absurd h (by show ¬ (0 : Nat) = 3; decide)
 · rfl
theorem hear_1 {d : Nat} {f : Nat} {old : Bool} (h : nt.kind = 1) (hr : r' = r.up nt.term d) (ho : old = decide (nt.term < r'.term)) : r.hear f nt d = r'.rank f nt old d := by subst ho; subst hr; exact if_pos h
theorem hear_3 {d : Nat} {f : Nat} {old : Bool} (h : nt.kind = 3) (hr : r' = r.up nt.term d) (ho : old = decide (nt.term < r'.term)) : r.hear f nt d = r'.vote f nt old d := by subst ho; subst hr; unfold RS.Rf.hear; dsimp only; rw [if_neg (by omega), if_pos h]
theorem hear_57 {d : Nat} {f : Nat} {old : Bool} (h : nt.kind = 5 ∨ nt.kind = 7) (hr : r' = r.up nt.term d) (ho : old = decide (nt.term < r'.term)) : r.hear f nt d = if old then (r', r'.put RS.Ou.none f (RS.Rf.nt 6)) else if r'.role ≠ 3 then r'.led f nt d else (r', RS.Ou.none) := by
 subst ho; subst hr; unfold RS.Rf.hear; dsimp only; rw [if_neg (by omega), if_neg (by omega), if_pos h]
theorem hear_2 {d : Nat} {f : Nat} {old : Bool} (h : nt.kind = 2) (hr : r' = r.up nt.term d) (ho : old = decide (nt.term < r'.term)) : r.hear f nt d = if !old && (decide (r'.role = 1) && (decide (nt.round = r'.round) && nt.yes)) then (({ r' with sides := fun j => if j = f then true else r'.sides j } : RS.Rf), RS.Ou.none) else (r', RS.Ou.none) := by
 subst ho; subst hr; unfold RS.Rf.hear; dsimp only; rw [if_neg (by omega), if_neg (by omega), if_neg (by omega), if_pos h]
theorem hear_4 {d : Nat} {f : Nat} {old : Bool} (h : nt.kind = 4) (hr : r' = r.up nt.term d) (ho : old = decide (nt.term < r'.term)) : r.hear f nt d = if !old && (decide (r'.role = 2) && nt.yes) then (if ({ r' with sides := fun j => if j = f then true else r'.sides j } : RS.Rf).most then ({ r' with sides := fun j => if j = f then true else r'.sides j } : RS.Rf).lead RS.Ou.none else (({ r' with sides := fun j => if j = f then true else r'.sides j } : RS.Rf), RS.Ou.none)) else (r', RS.Ou.none) := by
 subst ho; subst hr; unfold RS.Rf.hear; dsimp only; rw [if_neg (by omega), if_neg (by omega), if_neg (by omega), if_neg (by omega), if_pos h]
theorem hear_6 {d : Nat} {f : Nat} {old : Bool} (h : nt.kind = 6) (hr : r' = r.up nt.term d) (ho : old = decide (nt.term < r'.term)) : r.hear f nt d = if !old && decide (r'.role = 3) then r'.added f nt else (r', RS.Ou.none) := by
 subst ho; subst hr; unfold RS.Rf.hear; dsimp only; rw [if_neg (by omega), if_neg (by omega), if_neg (by omega), if_neg (by omega), if_neg (by omega), if_pos h]
theorem up_no {d : Nat} (h : ¬ r.term < nt.term) : r.up nt.term d = r := if_neg h
theorem up_3 {d : Nat} (h : r.term < nt.term) (h3 : r.role = 3) : r.up nt.term d = { r.draw d with term := nt.term, who := -1, role := 0, leader := -1 } := by unfold RS.Rf.up; rw [if_pos h, if_pos h3]
theorem up_n3 {d : Nat} (h : r.term < nt.term) (h3 : ¬ r.role = 3) : r.up nt.term d = { r with term := nt.term, who := -1, role := 0, leader := -1 } := by unfold RS.Rf.up; rw [if_pos h, if_neg h3]
theorem hear_done {own own4 own9 : Own} {w w5 w9 : World} {i p q g g9 t0 : Nat} {who0 : Int} {r r9 : RS.Rf} {x x9 : Ov} {o o9 : RS.Ou} {nt : RS.Nt} {pl pd : Option Addr} {nl cl nd cd : Nat} (hn : NdAt own9 w9 i p g9 r9) (ho : OvAt w9 (fun b => own9 b = 7) x9 o9) (hm : Mv (fun l => l = 7) own4 w5 own9 w9) (S : HrC own w own4 w5 i p q g t0 who0 r x o w.heap.size nt pl pd nl cl nd cd) :
 Hid (Told own w (fun l => l = i ∨ l = 7) i p r9 o9 (.returned (.agg x9.cells)) (w9.setRow (w.heap.size + 1) x9.cells)) ∧ Hid (w9.heap[w.heap.size + 1]? = some (.cells #[.bool false, .bool false, .int .u8 0, .int .u64 0, .int .u64 0, .int .u64 0, .int .u64 0, .int .u64 0, .bool false, .slice none 0 0, .slice none 0 0, .bool false, .int .u64 0, .slice none 0 0, .slice none 0 0, .slice none 0 0] 100)) := by
 have hX := S.z.mv hm (by decide)
 exact ⟨zh (Told.fin hn ho (S.m.trans (hm.mono fun l e => .inr e)) hX (Nat.le_succ _)), zh hX.row⟩
set_option maxRecDepth 100000 in
set_option maxHeartbeats 4000000 in
theorem hear_w (own : Own) (i p g : Nat) (r : RS.Rf) (w : World) (h : NdAt own w i p g r) (M : Nat) (hb : Nb M r) (hM : M ≤ 80000) (f : Nat) (hf : f < r.n) (hfi : f ≠ r.id) (hnx : r.role = 3 → 1 ≤ r.next f) (nt : RS.Nt) (hmf : RS.Mf M nt) (pl pd : Option Addr) (nl cl nd cd : Nat)
 (hL : EsR w (Frn own i) (.slice pl nl cl) nt.list) (hD : DatA w (Frn own i) (.slice pd nd cd) []) (d : Nat) (hd : d < 2 ^ 64) :
 Calls Try.prog 59 #[.pointer (some ⟨p, 0, none⟩), .int .i64 (f : Int), .agg #[.int .u8 (nt.kind : Int), .int .u64 (nt.term : Int), .int .u64 (nt.round : Int), .int .u64 (nt.index : Int), .int .u64 (nt.at_ : Int), .int .u64 (nt.commit : Int), .bool nt.yes, .slice pl nl cl, .slice pd nd cd], .int .u64 (d : Int)] w (Told own w (fun l => l = i ∨ l = 7) i p (r.hear f nt d).1 (r.hear f nt d).2) := by
 have hi7 := h.hi
 have hf7 : f < 7 := by have := hb.n7; omega
 have Hb := zh hb
 have Hmf := zh hmf
 have Hnx := zh hnx
 have HT2 := zh hb.T2
 obtain ⟨b1, b2, m1⟩ := bx2 own w (nca nt pl pd nl cl nd cd) #[.bool false, .bool false, .int .u8 0, .int .u64 0, .int .u64 0, .int .u64 0, .int .u64 0, .int .u64 0, .bool false, .slice none 0 0, .slice none 0 0, .bool false, .int .u64 0, .slice none 0 0, .slice none 0 0, .slice none 0 0] 31 100
 unfold nca at b1 b2 m1
 obtain ⟨w1, hw1⟩ : ∃ w1, ((w.alloc (.cells #[.int .u8 (nt.kind : Int), .int .u64 (nt.term : Int), .int .u64 (nt.round : Int), .int .u64 (nt.index : Int), .int .u64 (nt.at_ : Int), .int .u64 (nt.commit : Int), .bool nt.yes, .slice pl nl cl, .slice pd nd cd] 31)).alloc (.cells #[.bool false, .bool false, .int .u8 0, .int .u64 0, .int .u64 0, .int .u64 0, .int .u64 0, .int .u64 0, .bool false, .slice none 0 0, .slice none 0 0, .bool false, .int .u64 0, .slice none 0 0, .slice none 0 0, .slice none 0 0] 100)) = w1 := ⟨_, rfl⟩
 rw [hw1] at b1 b2 m1
 have HW := zh hw1
 have HN1 := zh (h.mv m1 id)
 have HB1 := zh b1
 have HZ1 := zh b2
 have HM1 := zh (m1.mono (L' := (fun l => l = i ∨ l = 7)) fun _ e => e.elim)
 have HL1 := zh (Frn.mv (footed_esr _ _) hL HM1.out)
 have HD1 := zh (Frn.mv (footed_dat _ _) hD HM1.out)
 clear h hw1 hL hD hb hmf hnx b1 b2 m1
 generalize ext own w.heap.size 9 = own1 at *
 have Hmay := zh (mayt_w nt pl pd nl cl nd cd (Frn own1 i) w1 HL1.out HD1.out (mf_may Hmf.out (by omega)))
 have Hnone := zh (none_w own1 i p g r w1 HN1.out)
 have hp0 := HN1.out.cn
 have hp1 := HN1.out.cid
 have f1 : decide ((f : Int) < 0) = false := by simp
 have f2 : decide ((r.n : Int) ≤ (f : Int)) = false := by simp; omega
 have f3 : ((f : Int) == (r.id : Int)) = false := by simp; omega
 have f4 : (f == r.id) = false := by simp; omega
 have f5 : decide (r.n ≤ f) = false := by simp; omega
 go_enter Try.func59, Try.ntmps59
 go_upto_region 1 with (fail)
 rw [HW.out]
 have n0 : w1.cell? ⟨w.heap.size, 0, none⟩ = some (.int .u8 (nt.kind : Int)) := HB1.out.c 0
 have n1 : w1.cell? ⟨w.heap.size, 1, none⟩ = some (.int .u64 (nt.term : Int)) := HB1.out.c 1
 have n2 : w1.cell? ⟨w.heap.size, 2, none⟩ = some (.int .u64 (nt.round : Int)) := HB1.out.c 2
 have n3 : w1.cell? ⟨w.heap.size, 3, none⟩ = some (.int .u64 (nt.index : Int)) := HB1.out.c 3
 have n4 : w1.cell? ⟨w.heap.size, 4, none⟩ = some (.int .u64 (nt.at_ : Int)) := HB1.out.c 4
 have n5 : w1.cell? ⟨w.heap.size, 5, none⟩ = some (.int .u64 (nt.commit : Int)) := HB1.out.c 5
 have n6 : w1.cell? ⟨w.heap.size, 6, none⟩ = some (.bool nt.yes) := HB1.out.c 6
 have n7 : w1.cell? ⟨w.heap.size, 7, none⟩ = some (.slice pl nl cl) := HB1.out.c 7
 have n8 : w1.cell? ⟨w.heap.size, 8, none⟩ = some (.slice pd nd cd) := HB1.out.c 8
 go_upto_region 3 with (first | (go_at_call 106; refine (Hnone.out).mono ?_; rintro e w2 ⟨rfl, rfl⟩) | (go_at_call 46; refine (Hmay.out).mono ?_; rintro e w2 ⟨rfl, hB⟩; have HB := zh hB; clear hB))
 have HN2 := zh (HN1.out.below HB.out)
 have HB2 := zh (HB1.out.below HB.out)
 have HZ2 := zh (HZ1.out.below HB.out)
 have hm2 : Mv (fun l => l = i ∨ l = 7) own1 w1 (ext own1 w1.heap.size 9) w2 := Mv.of_below HB.out 9
 have HM2 := zh (HM1.out.trans hm2)
 have HL2 := zh (Frn.mv (footed_esr _ _) HL1.out hm2)
 have HD2 := zh (Frn.mv (footed_dat _ _) HD1.out hm2)
 clear hm2 HN1 HB1 HZ1 HM1 HL1 HD1 Hmay Hnone HW HB hp0 hp1 f1 f2 f3 f4 f5 n0 n1 n2 n3 n4 n5 n6 n7 n8
 generalize ext own1 w1.heap.size 9 = own2 at *
 have Hbeg := zh (begin_w own2 i p g r w2 HN2.out)
 go_upto_region 4 with (go_at_call 107; refine (Hbeg.out).mono ?_; rintro e w3 ⟨rfl, own3, h3, m3⟩; have HS3 := zh h3; have HM3 := zh m3; clear h3 m3)
 have hS3 : HrC own w own3 w3 i p w2.heap.size g r.term r.who r Ov.zero RS.Ou.none w.heap.size nt pl pd nl cl nd cd :=
  ⟨HS3.out, HB2.out.mv HM3.out id, HZ2.out.mv HM3.out id, Frn.mv (footed_esr _ _) HL2.out (HM3.out.mono fun _ e => e.elim), Frn.mv (footed_dat _ _) HD2.out (HM3.out.mono fun _ e => e.elim), HM2.out.trans (HM3.out.mono fun _ e => e.elim)⟩
 have HC3 := zh hS3
 clear hS3 HS3 HM3 HN2 HB2 HZ2 HM2 HL2 HD2 Hbeg
 generalize w2.heap.size = q at *
 have n1 : w3.cell? ⟨w.heap.size, 1, none⟩ = some (.int .u64 (nt.term : Int)) := HC3.out.c.c 1
 have hp3 := HC3.out.st.nd.cterm
 obtain ⟨bb, hbb⟩ : ∃ b, b = decide (r.term < nt.term) := ⟨_, rfl⟩
 have e1 : decide ((r.term : Int) < (nt.term : Int)) = bb := by rw [hbb]; simp
 have e2 : decide (r.term < nt.term) = bb := hbb.symm
 have Hbb := zh hbb
 clear hbb
 go_quiet (fail)
 clear e1 e2
 have HC4 := zh (HC3.out.drewN nq)
 clear HC3 n1 hp3
 generalize w3.drewN nq = w4 at *
 clear nq
 go_upto_if 49 with (fail)
 go_cut [] from 11 (fun wx => Hid (∃ own', HrC own w own' wx i p q g r.term r.who (r.up nt.term d) Ov.zero RS.Ou.none w.heap.size nt pl pd nl cl nd cd))
 case first =>
  cases bb
  · have Hup := zh (up_no (d := d) (of_decide_eq_false Hbb.out.symm))
    go_wp2
    go_meet
    rw [Hup.out]
    exact zh ⟨_, HC4.out⟩
  · have Hlt := zh (of_decide_eq_true Hbb.out.symm)
    have hp7 := HC4.out.st.nd.crole
    by_cases h3 : r.role = 3
    · have e3 : (r.role == 3) = true := by simpa using h3
      have e4 : ((r.role : Int) == 3) = true := by simp; omega
      have Hup := zh (up_3 (d := d) Hlt.out h3)
      clear h3
      have Hdr := zh (draw_w own3 i p g r w4 HC4.out.st.nd HT2.out d hd)
      go_upto_region 7 with (go_at_call 105; refine (Hdr.out).mono ?_; rintro e w5 ⟨⟨v5, rfl⟩, n5, m5⟩; have HN5 := zh n5; have HM5 := zh m5; clear n5 m5)
      have HC5 := zh (HC4.out.step (HC4.out.st.of_nd HN5.out HM5.out) (HM5.out.mono fun l e => .inl e))
      clear HC4 HN5 HM5 Hdr hp7 e3 e4
      have n1 : w5.cell? ⟨w.heap.size, 1, none⟩ = some (.int .u64 (nt.term : Int)) := HC5.out.c.c 1
      have hp3 := HC5.out.st.nd.cterm
      have hp4 := HC5.out.st.nd.cwho
      have hp7 := HC5.out.st.nd.crole
      have hp8 := HC5.out.st.nd.cleader
      have hf3 := HC5.out.st.nd.frozen 3
      have hf4 := HC5.out.st.nd.frozen 4
      have hf7 := HC5.out.st.nd.frozen 7
      have hf8 := HC5.out.st.nd.frozen 8
      go_wp2
      go_meet
      have h5 := (((HC5.out.st.setp 3 (.int .u64 (nt.term : Int)) { r.draw d with term := nt.term } rfl rfl rfl rfl).setp 4 (.int .i64 (-1)) { r.draw d with term := nt.term, who := -1 } rfl rfl rfl rfl).setp 7 (.int .u8 0) { r.draw d with term := nt.term, who := -1, role := 0 } rfl rfl rfl rfl).setp 8 (.int .i64 (-1)) { r.draw d with term := nt.term, who := -1, role := 0, leader := -1 } rfl rfl rfl rfl
      have m5 := ((((Mv.refl (fun l => l = i ∨ l = 7) own3 w5).trans (Mv.set (a := ⟨p, 3, none⟩) (.inl HC5.out.st.nd.op) (.int .u64 (nt.term : Int)))).trans (Mv.set (a := ⟨p, 4, none⟩) (.inl HC5.out.st.nd.op) (.int .i64 (-1)))).trans (Mv.set (a := ⟨p, 7, none⟩) (.inl HC5.out.st.nd.op) (.int .u8 0))).trans (Mv.set (a := ⟨p, 8, none⟩) (.inl HC5.out.st.nd.op) (.int .i64 (-1)))
      rw [Hup.out]
      exact zh ⟨_, HC5.out.step h5 m5⟩
    · have e3 : (r.role == 3) = false := by simpa using h3
      have e4 : ((r.role : Int) == 3) = false := by simp; omega
      have Hup := zh (up_n3 (d := d) Hlt.out h3)
      clear h3 hp7
      have n1 : w4.cell? ⟨w.heap.size, 1, none⟩ = some (.int .u64 (nt.term : Int)) := HC4.out.c.c 1
      have hp3 := HC4.out.st.nd.cterm
      have hp4 := HC4.out.st.nd.cwho
      have hp7 := HC4.out.st.nd.crole
      have hp8 := HC4.out.st.nd.cleader
      have hf3 := HC4.out.st.nd.frozen 3
      have hf4 := HC4.out.st.nd.frozen 4
      have hf7 := HC4.out.st.nd.frozen 7
      have hf8 := HC4.out.st.nd.frozen 8
      go_wp2
      go_meet
      have h5 := (((HC4.out.st.setp 3 (.int .u64 (nt.term : Int)) { r with term := nt.term } rfl rfl rfl rfl).setp 4 (.int .i64 (-1)) { r with term := nt.term, who := -1 } rfl rfl rfl rfl).setp 7 (.int .u8 0) { r with term := nt.term, who := -1, role := 0 } rfl rfl rfl rfl).setp 8 (.int .i64 (-1)) { r with term := nt.term, who := -1, role := 0, leader := -1 } rfl rfl rfl rfl
      have m5 := ((((Mv.refl (fun l => l = i ∨ l = 7) own3 w4).trans (Mv.set (a := ⟨p, 3, none⟩) (.inl HC4.out.st.nd.op) (.int .u64 (nt.term : Int)))).trans (Mv.set (a := ⟨p, 4, none⟩) (.inl HC4.out.st.nd.op) (.int .i64 (-1)))).trans (Mv.set (a := ⟨p, 7, none⟩) (.inl HC4.out.st.nd.op) (.int .u8 0))).trans (Mv.set (a := ⟨p, 8, none⟩) (.inl HC4.out.st.nd.op) (.int .i64 (-1)))
      rw [Hup.out]
      exact zh ⟨_, HC4.out.step h5 m5⟩
 case rest =>
  obtain ⟨own4, hc4⟩ := hcut.out
  have HC5 := zh hc4
  clear hcut hc4 HC4
  have Hb1 := zh (Hb.out.up (t := nt.term) Hmf.out.term d)
  obtain ⟨r1, hr1⟩ : ∃ r1, r1 = r.up nt.term d := ⟨_, rfl⟩
  rw [← hr1] at HC5 Hb1
  have Hr1 := zh hr1
  clear hr1
  obtain ⟨old, hold⟩ : ∃ b, b = decide (nt.term < r1.term) := ⟨_, rfl⟩
  have e1 : decide ((nt.term : Int) < (r1.term : Int)) = old := by rw [hold]; simp
  have e2 : decide (nt.term < r1.term) = old := hold.symm
  have Hold := zh hold
  clear hold
  have n1 : wc.cell? ⟨w.heap.size, 1, none⟩ = some (.int .u64 (nt.term : Int)) := HC5.out.c.c 1
  have hp3 := HC5.out.st.nd.cterm
  go_upto_region 8 with (fail)
  go_quiet (fail)
  have HC6 := zh (HC5.out.drewN nq)
  clear HC5 e1 e2 n1 hp3
  generalize wc.drewN nq = w6 at *
  have n0 : w6.cell? ⟨w.heap.size, 0, none⟩ = some (.int .u8 (nt.kind : Int)) := HC6.out.c.c 0
  have hkk := Hmf.out.kind
  obtain hk | hk | hk | hk | hk | hk | hk : nt.kind = 1 ∨ nt.kind = 3 ∨ nt.kind = 5 ∨ nt.kind = 7 ∨ nt.kind = 2 ∨ nt.kind = 4 ∨ nt.kind = 6 := by omega
  all_goals
   have HK := zh hk
   clear hk hkk
  · have k1 : (nt.kind == 1) = true := by have := HK.out; simp; omega
    have j1 : ((nt.kind : Int) == 1) = true := by have := HK.out; simp; omega
    have HV := zh (hear_1 (f := f) (old := old) HK.out Hr1.out Hold.out)
    go_upto_region 11 with (fail)
    clear n0 k1 j1
    have n0 : w6.cell? ⟨w.heap.size, 0, none⟩ = some (.int .u8 (nt.kind : Int)) := HC6.out.c.c 0
    have n1 : w6.cell? ⟨w.heap.size, 1, none⟩ = some (.int .u64 (nt.term : Int)) := HC6.out.c.c 1
    have n2 : w6.cell? ⟨w.heap.size, 2, none⟩ = some (.int .u64 (nt.round : Int)) := HC6.out.c.c 2
    have n3 : w6.cell? ⟨w.heap.size, 3, none⟩ = some (.int .u64 (nt.index : Int)) := HC6.out.c.c 3
    have n4 : w6.cell? ⟨w.heap.size, 4, none⟩ = some (.int .u64 (nt.at_ : Int)) := HC6.out.c.c 4
    have n5 : w6.cell? ⟨w.heap.size, 5, none⟩ = some (.int .u64 (nt.commit : Int)) := HC6.out.c.c 5
    have n6 : w6.cell? ⟨w.heap.size, 6, none⟩ = some (.bool nt.yes) := HC6.out.c.c 6
    have n7 : w6.cell? ⟨w.heap.size, 7, none⟩ = some (.slice pl nl cl) := HC6.out.c.c 7
    have n8 : w6.cell? ⟨w.heap.size, 8, none⟩ = some (.slice pd nd cd) := HC6.out.c.c 8
    have Hrk := zh (rank_w own4 i p q g r.term r.who r1 Ov.zero w6 HC6.out.st M Hb1.out f hf7 nt pl pd nl cl nd cd d hd old)
    go_upto_region 31 with (go_at_call 118; refine (Hrk.out).mono ?_; rintro e w7 ⟨⟨v7, rfl⟩, own7, x7, h7, _, m7⟩; have HC7 := zh (HC6.out.step h7 m7); clear h7 m7)
    clear HC6 Hrk n0 n1 n2 n3 n4 n5 n6 n7 n8
    have HDn := zh (nddone_w _ i p q _ r.term r.who _ _ _ _ HC7.out.st)
    go_wp2_with (first
     | (refine wpList_store_rowTo rfl 100 (.tmp 8) (.tmp 186) rfl rfl _ (Ov.cells x9) rfl rfl 100 _ HZ.out (show _ = some 16 by kernel_rfl) rfl (ov_one x9) ?_)
     | (go_at_call 111; refine (HDn.out).mono ?_; rintro e wz ⟨x9, own9, g9, rfl, hn9, ho9, hm9⟩; obtain ⟨HT, HZ⟩ := hear_done hn9 ho9 hm9 HC7.out; clear hn9 ho9 hm9))
    rw [HV.out]
    exact bodyPost_ret (results_cell_row rfl _ _ (w.heap.size + 1) 100 _ _ _ rfl (setRow_heap _ _ _ _ _ _ HZ.out) Try.underlying100 rfl (show _ = some 16 by kernel_rfl)) rfl HT.out
  · have k1 : (nt.kind == 1) = false := by have := HK.out; simp; omega
    have j1 : ((nt.kind : Int) == 1) = false := by have := HK.out; simp; omega
    have k3 : (nt.kind == 3) = true := by have := HK.out; simp; omega
    have j3 : ((nt.kind : Int) == 3) = true := by have := HK.out; simp; omega
    have HV := zh (hear_3 (f := f) (old := old) HK.out Hr1.out Hold.out)
    go_upto_region 13 with (fail)
    clear n0 k1 j1 k3 j3
    have n0 : w6.cell? ⟨w.heap.size, 0, none⟩ = some (.int .u8 (nt.kind : Int)) := HC6.out.c.c 0
    have n1 : w6.cell? ⟨w.heap.size, 1, none⟩ = some (.int .u64 (nt.term : Int)) := HC6.out.c.c 1
    have n2 : w6.cell? ⟨w.heap.size, 2, none⟩ = some (.int .u64 (nt.round : Int)) := HC6.out.c.c 2
    have n3 : w6.cell? ⟨w.heap.size, 3, none⟩ = some (.int .u64 (nt.index : Int)) := HC6.out.c.c 3
    have n4 : w6.cell? ⟨w.heap.size, 4, none⟩ = some (.int .u64 (nt.at_ : Int)) := HC6.out.c.c 4
    have n5 : w6.cell? ⟨w.heap.size, 5, none⟩ = some (.int .u64 (nt.commit : Int)) := HC6.out.c.c 5
    have n6 : w6.cell? ⟨w.heap.size, 6, none⟩ = some (.bool nt.yes) := HC6.out.c.c 6
    have n7 : w6.cell? ⟨w.heap.size, 7, none⟩ = some (.slice pl nl cl) := HC6.out.c.c 7
    have n8 : w6.cell? ⟨w.heap.size, 8, none⟩ = some (.slice pd nd cd) := HC6.out.c.c 8
    have Hrk := zh (vote_w own4 i p q g r.term r.who r1 Ov.zero w6 HC6.out.st M Hb1.out f nt pl pd nl cl nd cd d hd old)
    go_upto_region 31 with (go_at_call 119; refine (Hrk.out).mono ?_; rintro e w7 ⟨⟨v7, rfl⟩, own7, x7, h7, _, m7⟩; have HC7 := zh (HC6.out.step h7 m7); clear h7 m7)
    clear HC6 Hrk n0 n1 n2 n3 n4 n5 n6 n7 n8
    have HDn := zh (nddone_w _ i p q _ r.term r.who _ _ _ _ HC7.out.st)
    go_wp2_with (first
     | (refine wpList_store_rowTo rfl 100 (.tmp 8) (.tmp 186) rfl rfl _ (Ov.cells x9) rfl rfl 100 _ HZ.out (show _ = some 16 by kernel_rfl) rfl (ov_one x9) ?_)
     | (go_at_call 111; refine (HDn.out).mono ?_; rintro e wz ⟨x9, own9, g9, rfl, hn9, ho9, hm9⟩; obtain ⟨HT, HZ⟩ := hear_done hn9 ho9 hm9 HC7.out; clear hn9 ho9 hm9))
    rw [HV.out]
    exact bodyPost_ret (results_cell_row rfl _ _ (w.heap.size + 1) 100 _ _ _ rfl (setRow_heap _ _ _ _ _ _ HZ.out) Try.underlying100 rfl (show _ = some 16 by kernel_rfl)) rfl HT.out
  · have k1 : (nt.kind == 1) = false := by have := HK.out; simp; omega
    have j1 : ((nt.kind : Int) == 1) = false := by have := HK.out; simp; omega
    have k3 : (nt.kind == 3) = false := by have := HK.out; simp; omega
    have j3 : ((nt.kind : Int) == 3) = false := by have := HK.out; simp; omega
    have k5 : (nt.kind == 5) = true := by have := HK.out; simp; omega
    have j5 : ((nt.kind : Int) == 5) = true := by have := HK.out; simp; omega
    have hv := hear_57 (r := r) (r' := r1) (f := f) (d := d) (old := old) (.inl HK.out) Hr1.out Hold.out
    cases old
    · rw [if_neg (by decide)] at hv
      have hp7 := HC6.out.st.nd.crole
      by_cases h3 : r1.role = 3
      · rw [if_neg (fun h => h h3)] at hv
        have HV := zh hv
        have a1 : (r1.role == 3) = true := by simpa using h3
        have a2 : ((r1.role : Int) == 3) = true := by simp; omega
        have a3 : (r1.role != 3) = false := by simpa using h3
        have a4 : ((r1.role : Int) != 3) = false := by simp; omega
        clear hv h3
        go_upto_region 31 with (fail)
        clear n0 k1 j1 k3 j3 k5 j5 hp7 a1 a2 a3 a4
        have HDn := zh (nddone_w _ i p q _ r.term r.who _ _ _ _ HC6.out.st)
        go_wp2_with (first
         | (refine wpList_store_rowTo rfl 100 (.tmp 8) (.tmp 186) rfl rfl _ (Ov.cells x9) rfl rfl 100 _ HZ.out (show _ = some 16 by kernel_rfl) rfl (ov_one x9) ?_)
         | (go_at_call 111; refine (HDn.out).mono ?_; rintro e wz ⟨x9, own9, g9, rfl, hn9, ho9, hm9⟩; obtain ⟨HT, HZ⟩ := hear_done hn9 ho9 hm9 HC6.out; clear hn9 ho9 hm9))
        rw [HV.out]
        exact bodyPost_ret (results_cell_row rfl _ _ (w.heap.size + 1) 100 _ _ _ rfl (setRow_heap _ _ _ _ _ _ HZ.out) Try.underlying100 rfl (show _ = some 16 by kernel_rfl)) rfl HT.out
      · rw [if_pos h3] at hv
        have HV := zh hv
        have a1 : (r1.role == 3) = false := by simpa using h3
        have a2 : ((r1.role : Int) == 3) = false := by simp; omega
        have a3 : (r1.role != 3) = true := by simpa using h3
        have a4 : ((r1.role : Int) != 3) = true := by simp; omega
        clear hv h3
        go_upto_region 19 with (fail)
        clear n0 k1 j1 k3 j3 k5 j5 hp7 a1 a2 a3 a4
        have n0 : w6.cell? ⟨w.heap.size, 0, none⟩ = some (.int .u8 (nt.kind : Int)) := HC6.out.c.c 0
        have n1 : w6.cell? ⟨w.heap.size, 1, none⟩ = some (.int .u64 (nt.term : Int)) := HC6.out.c.c 1
        have n2 : w6.cell? ⟨w.heap.size, 2, none⟩ = some (.int .u64 (nt.round : Int)) := HC6.out.c.c 2
        have n3 : w6.cell? ⟨w.heap.size, 3, none⟩ = some (.int .u64 (nt.index : Int)) := HC6.out.c.c 3
        have n4 : w6.cell? ⟨w.heap.size, 4, none⟩ = some (.int .u64 (nt.at_ : Int)) := HC6.out.c.c 4
        have n5 : w6.cell? ⟨w.heap.size, 5, none⟩ = some (.int .u64 (nt.commit : Int)) := HC6.out.c.c 5
        have n6 : w6.cell? ⟨w.heap.size, 6, none⟩ = some (.bool nt.yes) := HC6.out.c.c 6
        have n7 : w6.cell? ⟨w.heap.size, 7, none⟩ = some (.slice pl nl cl) := HC6.out.c.c 7
        have n8 : w6.cell? ⟨w.heap.size, 8, none⟩ = some (.slice pd nd cd) := HC6.out.c.c 8
        have Hld := zh (led_w own4 i p q g r.term r.who r1 Ov.zero w6 HC6.out.st M Hb1.out (by omega) f hf7 nt pl pd nl cl nd cd HC6.out.l HC6.out.d Hmf.out.list.1 (fun e he => by have h1 := (Hmf.out.list.2.2 e he).2; omega) (by have h1 := Hmf.out.index.1; omega) (by have h1 := Hmf.out.commit.1; omega) (by have h1 := Hmf.out.at_.1; omega) d hd)
        go_upto_region 31 with (go_at_call 121; refine (Hld.out).mono ?_; rintro e w7 ⟨⟨v7, rfl⟩, own7, x7, g7, h7, m7⟩; have HC7 := zh (HC6.out.step h7 m7); clear h7 m7)
        clear HC6 Hld n0 n1 n2 n3 n4 n5 n6 n7 n8
        have HDn := zh (nddone_w _ i p q _ r.term r.who _ _ _ _ HC7.out.st)
        go_wp2_with (first
         | (refine wpList_store_rowTo rfl 100 (.tmp 8) (.tmp 186) rfl rfl _ (Ov.cells x9) rfl rfl 100 _ HZ.out (show _ = some 16 by kernel_rfl) rfl (ov_one x9) ?_)
         | (go_at_call 111; refine (HDn.out).mono ?_; rintro e wz ⟨x9, own9, g9, rfl, hn9, ho9, hm9⟩; obtain ⟨HT, HZ⟩ := hear_done hn9 ho9 hm9 HC7.out; clear hn9 ho9 hm9))
        rw [HV.out]
        exact bodyPost_ret (results_cell_row rfl _ _ (w.heap.size + 1) 100 _ _ _ rfl (setRow_heap _ _ _ _ _ _ HZ.out) Try.underlying100 rfl (show _ = some 16 by kernel_rfl)) rfl HT.out
    · rw [if_pos rfl] at hv
      have HV := zh hv
      clear hv
      have Hs := zh (send_w own4 i p q g r.term r.who r1 Ov.zero RS.Ou.none w6 HC6.out.st f (RS.Rf.nt 6) 6 0 0 0 0 0 false none 0 0 none 0 0 rfl rfl rfl rfl rfl rfl (EsR.nil _ _) (dat0 _ _) (Nat.zero_le _))
      go_upto_region 31 with (go_at_call 120; refine (Hs.out).mono ?_; rintro e w7 ⟨⟨v7, rfl⟩, own7, x7, h7, _, _, _, m7⟩; have HC7 := zh (HC6.out.step h7 (m7.mono fun l e => .inr e)); clear h7 m7)
      clear HC6 Hs n0 k1 j1 k3 j3 k5 j5
      have HDn := zh (nddone_w _ i p q _ r.term r.who _ _ _ _ HC7.out.st)
      go_wp2_with (first
       | (refine wpList_store_rowTo rfl 100 (.tmp 8) (.tmp 186) rfl rfl _ (Ov.cells x9) rfl rfl 100 _ HZ.out (show _ = some 16 by kernel_rfl) rfl (ov_one x9) ?_)
       | (go_at_call 111; refine (HDn.out).mono ?_; rintro e wz ⟨x9, own9, g9, rfl, hn9, ho9, hm9⟩; obtain ⟨HT, HZ⟩ := hear_done hn9 ho9 hm9 HC7.out; clear hn9 ho9 hm9))
      rw [HV.out]
      exact bodyPost_ret (results_cell_row rfl _ _ (w.heap.size + 1) 100 _ _ _ rfl (setRow_heap _ _ _ _ _ _ HZ.out) Try.underlying100 rfl (show _ = some 16 by kernel_rfl)) rfl HT.out
  · have k1 : (nt.kind == 1) = false := by have := HK.out; simp; omega
    have j1 : ((nt.kind : Int) == 1) = false := by have := HK.out; simp; omega
    have k3 : (nt.kind == 3) = false := by have := HK.out; simp; omega
    have j3 : ((nt.kind : Int) == 3) = false := by have := HK.out; simp; omega
    have k5 : (nt.kind == 5) = false := by have := HK.out; simp; omega
    have j5 : ((nt.kind : Int) == 5) = false := by have := HK.out; simp; omega
    have k7 : (nt.kind == 7) = true := by have := HK.out; simp; omega
    have j7 : ((nt.kind : Int) == 7) = true := by have := HK.out; simp; omega
    have hv := hear_57 (r := r) (r' := r1) (f := f) (d := d) (old := old) (.inr HK.out) Hr1.out Hold.out
    cases old
    · rw [if_neg (by decide)] at hv
      have hp7 := HC6.out.st.nd.crole
      by_cases h3 : r1.role = 3
      · rw [if_neg (fun h => h h3)] at hv
        have HV := zh hv
        have a1 : (r1.role == 3) = true := by simpa using h3
        have a2 : ((r1.role : Int) == 3) = true := by simp; omega
        have a3 : (r1.role != 3) = false := by simpa using h3
        have a4 : ((r1.role : Int) != 3) = false := by simp; omega
        clear hv h3
        go_upto_region 31 with (fail)
        clear n0 k1 j1 k3 j3 k5 j5 k7 j7 hp7 a1 a2 a3 a4
        have HDn := zh (nddone_w _ i p q _ r.term r.who _ _ _ _ HC6.out.st)
        go_wp2_with (first
         | (refine wpList_store_rowTo rfl 100 (.tmp 8) (.tmp 186) rfl rfl _ (Ov.cells x9) rfl rfl 100 _ HZ.out (show _ = some 16 by kernel_rfl) rfl (ov_one x9) ?_)
         | (go_at_call 111; refine (HDn.out).mono ?_; rintro e wz ⟨x9, own9, g9, rfl, hn9, ho9, hm9⟩; obtain ⟨HT, HZ⟩ := hear_done hn9 ho9 hm9 HC6.out; clear hn9 ho9 hm9))
        rw [HV.out]
        exact bodyPost_ret (results_cell_row rfl _ _ (w.heap.size + 1) 100 _ _ _ rfl (setRow_heap _ _ _ _ _ _ HZ.out) Try.underlying100 rfl (show _ = some 16 by kernel_rfl)) rfl HT.out
      · rw [if_pos h3] at hv
        have HV := zh hv
        have a1 : (r1.role == 3) = false := by simpa using h3
        have a2 : ((r1.role : Int) == 3) = false := by simp; omega
        have a3 : (r1.role != 3) = true := by simpa using h3
        have a4 : ((r1.role : Int) != 3) = true := by simp; omega
        clear hv h3
        go_upto_region 19 with (fail)
        clear n0 k1 j1 k3 j3 k5 j5 k7 j7 hp7 a1 a2 a3 a4
        have n0 : w6.cell? ⟨w.heap.size, 0, none⟩ = some (.int .u8 (nt.kind : Int)) := HC6.out.c.c 0
        have n1 : w6.cell? ⟨w.heap.size, 1, none⟩ = some (.int .u64 (nt.term : Int)) := HC6.out.c.c 1
        have n2 : w6.cell? ⟨w.heap.size, 2, none⟩ = some (.int .u64 (nt.round : Int)) := HC6.out.c.c 2
        have n3 : w6.cell? ⟨w.heap.size, 3, none⟩ = some (.int .u64 (nt.index : Int)) := HC6.out.c.c 3
        have n4 : w6.cell? ⟨w.heap.size, 4, none⟩ = some (.int .u64 (nt.at_ : Int)) := HC6.out.c.c 4
        have n5 : w6.cell? ⟨w.heap.size, 5, none⟩ = some (.int .u64 (nt.commit : Int)) := HC6.out.c.c 5
        have n6 : w6.cell? ⟨w.heap.size, 6, none⟩ = some (.bool nt.yes) := HC6.out.c.c 6
        have n7 : w6.cell? ⟨w.heap.size, 7, none⟩ = some (.slice pl nl cl) := HC6.out.c.c 7
        have n8 : w6.cell? ⟨w.heap.size, 8, none⟩ = some (.slice pd nd cd) := HC6.out.c.c 8
        have Hld := zh (led_w own4 i p q g r.term r.who r1 Ov.zero w6 HC6.out.st M Hb1.out (by omega) f hf7 nt pl pd nl cl nd cd HC6.out.l HC6.out.d Hmf.out.list.1 (fun e he => by have h1 := (Hmf.out.list.2.2 e he).2; omega) (by have h1 := Hmf.out.index.1; omega) (by have h1 := Hmf.out.commit.1; omega) (by have h1 := Hmf.out.at_.1; omega) d hd)
        go_upto_region 31 with (go_at_call 121; refine (Hld.out).mono ?_; rintro e w7 ⟨⟨v7, rfl⟩, own7, x7, g7, h7, m7⟩; have HC7 := zh (HC6.out.step h7 m7); clear h7 m7)
        clear HC6 Hld n0 n1 n2 n3 n4 n5 n6 n7 n8
        have HDn := zh (nddone_w _ i p q _ r.term r.who _ _ _ _ HC7.out.st)
        go_wp2_with (first
         | (refine wpList_store_rowTo rfl 100 (.tmp 8) (.tmp 186) rfl rfl _ (Ov.cells x9) rfl rfl 100 _ HZ.out (show _ = some 16 by kernel_rfl) rfl (ov_one x9) ?_)
         | (go_at_call 111; refine (HDn.out).mono ?_; rintro e wz ⟨x9, own9, g9, rfl, hn9, ho9, hm9⟩; obtain ⟨HT, HZ⟩ := hear_done hn9 ho9 hm9 HC7.out; clear hn9 ho9 hm9))
        rw [HV.out]
        exact bodyPost_ret (results_cell_row rfl _ _ (w.heap.size + 1) 100 _ _ _ rfl (setRow_heap _ _ _ _ _ _ HZ.out) Try.underlying100 rfl (show _ = some 16 by kernel_rfl)) rfl HT.out
    · rw [if_pos rfl] at hv
      have HV := zh hv
      clear hv
      have Hs := zh (send_w own4 i p q g r.term r.who r1 Ov.zero RS.Ou.none w6 HC6.out.st f (RS.Rf.nt 6) 6 0 0 0 0 0 false none 0 0 none 0 0 rfl rfl rfl rfl rfl rfl (EsR.nil _ _) (dat0 _ _) (Nat.zero_le _))
      go_upto_region 31 with (go_at_call 120; refine (Hs.out).mono ?_; rintro e w7 ⟨⟨v7, rfl⟩, own7, x7, h7, _, _, _, m7⟩; have HC7 := zh (HC6.out.step h7 (m7.mono fun l e => .inr e)); clear h7 m7)
      clear HC6 Hs n0 k1 j1 k3 j3 k5 j5 k7 j7
      have HDn := zh (nddone_w _ i p q _ r.term r.who _ _ _ _ HC7.out.st)
      go_wp2_with (first
       | (refine wpList_store_rowTo rfl 100 (.tmp 8) (.tmp 186) rfl rfl _ (Ov.cells x9) rfl rfl 100 _ HZ.out (show _ = some 16 by kernel_rfl) rfl (ov_one x9) ?_)
       | (go_at_call 111; refine (HDn.out).mono ?_; rintro e wz ⟨x9, own9, g9, rfl, hn9, ho9, hm9⟩; obtain ⟨HT, HZ⟩ := hear_done hn9 ho9 hm9 HC7.out; clear hn9 ho9 hm9))
      rw [HV.out]
      exact bodyPost_ret (results_cell_row rfl _ _ (w.heap.size + 1) 100 _ _ _ rfl (setRow_heap _ _ _ _ _ _ HZ.out) Try.underlying100 rfl (show _ = some 16 by kernel_rfl)) rfl HT.out
  · have k1 : (nt.kind == 1) = false := by have := HK.out; simp; omega
    have j1 : ((nt.kind : Int) == 1) = false := by have := HK.out; simp; omega
    have k3 : (nt.kind == 3) = false := by have := HK.out; simp; omega
    have j3 : ((nt.kind : Int) == 3) = false := by have := HK.out; simp; omega
    have k5 : (nt.kind == 5) = false := by have := HK.out; simp; omega
    have j5 : ((nt.kind : Int) == 5) = false := by have := HK.out; simp; omega
    have k7 : (nt.kind == 7) = false := by have := HK.out; simp; omega
    have j7 : ((nt.kind : Int) == 7) = false := by have := HK.out; simp; omega
    have k2 : (nt.kind == 2) = true := by have := HK.out; simp; omega
    have j2 : ((nt.kind : Int) == 2) = true := by have := HK.out; simp; omega
    have hv := hear_2 (r := r) (r' := r1) (f := f) (d := d) (old := old) HK.out Hr1.out Hold.out
    have hp7 := HC6.out.st.nd.crole
    have hp12 := HC6.out.st.nd.cround
    have n2 : w6.cell? ⟨w.heap.size, 2, none⟩ = some (.int .u64 (nt.round : Int)) := HC6.out.c.c 2
    cases old
    · by_cases h3 : r1.role = 1
      · have a1 : (r1.role == 1) = true := by simpa using h3
        have a2 : ((r1.role : Int) == 1) = true := by simp; omega
        have a3 : decide (r1.role = 1) = true := by simpa using h3
        rw [a3] at hv
        clear h3 a3
        by_cases h4 : nt.round = r1.round
        · have b1 : (nt.round == r1.round) = true := by simpa using h4
          have b2 : ((nt.round : Int) == (r1.round : Int)) = true := by simp; omega
          have b3 : decide (nt.round = r1.round) = true := by simpa using h4
          rw [b3] at hv
          clear h4 b3
          rcases Bool.eq_false_or_eq_true nt.yes with h5 | h5
          · have n6 : w6.cell? ⟨w.heap.size, 6, none⟩ = some (.bool true) := (HC6.out.c.c 6).trans (by rw [← h5]; rfl)
            rw [h5] at hv
            have HV := zh (hv.trans (if_pos rfl))
            clear hv h5
            go_upto_region 21 with (fail)
            go_quiet (fail)
            have HC7 := zh (HC6.out.drewN nq)
            clear HC6 n0 k1 j1 k3 j3 k5 j5 k7 j7 k2 j2 hp7 hp12 n2 n6 a1 a2 b1 b2
            generalize w6.drewN nq = w7 at *
            have hf0 : (0 : Int) ≤ (f : Int) := by omega
            have hf7i : (f : Int) < 7 := by omega
            have hs := HC7.out.st.nd.cside hf7
            have hfs := HC7.out.st.nd.frozen (13 + f)
            go_upto_region 31 with (fail)
            have HC8 := zh (HC7.out.step (HC7.out.st.setp (13 + f) (.bool true) _ (set_side r1 g hf7 true) rfl rfl rfl) (Mv.set (a := ⟨p, 13 + f, none⟩) (.inl HC7.out.st.nd.op) _))
            clear HC7 hs hfs
            generalize w7.setCell ⟨p, 13 + f, none⟩ (.bool true) = w8 at *
            have HDn := zh (nddone_w _ i p q _ r.term r.who _ _ _ _ HC8.out.st)
            go_wp2_with (first
             | (refine wpList_store_rowTo rfl 100 (.tmp 8) (.tmp 186) rfl rfl _ (Ov.cells x9) rfl rfl 100 _ HZ.out (show _ = some 16 by kernel_rfl) rfl (ov_one x9) ?_)
             | (go_at_call 111; refine (HDn.out).mono ?_; rintro e wz ⟨x9, own9, g9, rfl, hn9, ho9, hm9⟩; obtain ⟨HT, HZ⟩ := hear_done hn9 ho9 hm9 HC8.out; clear hn9 ho9 hm9))
            rw [HV.out]
            exact bodyPost_ret (results_cell_row rfl _ _ (w.heap.size + 1) 100 _ _ _ rfl (setRow_heap _ _ _ _ _ _ HZ.out) Try.underlying100 rfl (show _ = some 16 by kernel_rfl)) rfl HT.out
          · have n6 : w6.cell? ⟨w.heap.size, 6, none⟩ = some (.bool false) := (HC6.out.c.c 6).trans (by rw [← h5]; rfl)
            rw [h5] at hv
            have HV := zh (hv.trans (if_neg (by simp)))
            clear hv h5
            go_upto_region 21 with (fail)
            go_quiet (fail)
            have HC7 := zh (HC6.out.drewN nq)
            clear HC6 n0 k1 j1 k3 j3 k5 j5 k7 j7 k2 j2 hp7 hp12 n2 n6 a1 a2 b1 b2
            generalize w6.drewN nq = w7 at *
            go_upto_region 31 with (fail)
            have HDn := zh (nddone_w _ i p q _ r.term r.who _ _ _ _ HC7.out.st)
            go_wp2_with (first
             | (refine wpList_store_rowTo rfl 100 (.tmp 8) (.tmp 186) rfl rfl _ (Ov.cells x9) rfl rfl 100 _ HZ.out (show _ = some 16 by kernel_rfl) rfl (ov_one x9) ?_)
             | (go_at_call 111; refine (HDn.out).mono ?_; rintro e wz ⟨x9, own9, g9, rfl, hn9, ho9, hm9⟩; obtain ⟨HT, HZ⟩ := hear_done hn9 ho9 hm9 HC7.out; clear hn9 ho9 hm9))
            rw [HV.out]
            exact bodyPost_ret (results_cell_row rfl _ _ (w.heap.size + 1) 100 _ _ _ rfl (setRow_heap _ _ _ _ _ _ HZ.out) Try.underlying100 rfl (show _ = some 16 by kernel_rfl)) rfl HT.out
        · have b1 : (nt.round == r1.round) = false := by simpa using h4
          have b2 : ((nt.round : Int) == (r1.round : Int)) = false := by simp; omega
          have b3 : decide (nt.round = r1.round) = false := by simpa using h4
          rw [b3] at hv
          clear h4 b3
          have n6 : w6.cell? ⟨w.heap.size, 6, none⟩ = some (.bool nt.yes) := HC6.out.c.c 6
          have HV := zh (hv.trans (if_neg (by simp)))
          clear hv
          go_upto_region 21 with (fail)
          go_quiet (fail)
          have HC7 := zh (HC6.out.drewN nq)
          clear HC6 n0 k1 j1 k3 j3 k5 j5 k7 j7 k2 j2 hp7 hp12 n2 n6 a1 a2 b1 b2
          generalize w6.drewN nq = w7 at *
          go_upto_region 31 with (fail)
          have HDn := zh (nddone_w _ i p q _ r.term r.who _ _ _ _ HC7.out.st)
          go_wp2_with (first
           | (refine wpList_store_rowTo rfl 100 (.tmp 8) (.tmp 186) rfl rfl _ (Ov.cells x9) rfl rfl 100 _ HZ.out (show _ = some 16 by kernel_rfl) rfl (ov_one x9) ?_)
           | (go_at_call 111; refine (HDn.out).mono ?_; rintro e wz ⟨x9, own9, g9, rfl, hn9, ho9, hm9⟩; obtain ⟨HT, HZ⟩ := hear_done hn9 ho9 hm9 HC7.out; clear hn9 ho9 hm9))
          rw [HV.out]
          exact bodyPost_ret (results_cell_row rfl _ _ (w.heap.size + 1) 100 _ _ _ rfl (setRow_heap _ _ _ _ _ _ HZ.out) Try.underlying100 rfl (show _ = some 16 by kernel_rfl)) rfl HT.out
      · have a1 : (r1.role == 1) = false := by simpa using h3
        have a2 : ((r1.role : Int) == 1) = false := by simp; omega
        have a3 : decide (r1.role = 1) = false := by simpa using h3
        rw [a3] at hv
        clear h3 a3
        have n6 : w6.cell? ⟨w.heap.size, 6, none⟩ = some (.bool nt.yes) := HC6.out.c.c 6
        have HV := zh (hv.trans (if_neg (by simp)))
        clear hv
        go_upto_region 21 with (fail)
        go_quiet (fail)
        have HC7 := zh (HC6.out.drewN nq)
        clear HC6 n0 k1 j1 k3 j3 k5 j5 k7 j7 k2 j2 hp7 hp12 n2 n6 a1 a2
        generalize w6.drewN nq = w7 at *
        go_upto_region 31 with (fail)
        have HDn := zh (nddone_w _ i p q _ r.term r.who _ _ _ _ HC7.out.st)
        go_wp2_with (first
         | (refine wpList_store_rowTo rfl 100 (.tmp 8) (.tmp 186) rfl rfl _ (Ov.cells x9) rfl rfl 100 _ HZ.out (show _ = some 16 by kernel_rfl) rfl (ov_one x9) ?_)
         | (go_at_call 111; refine (HDn.out).mono ?_; rintro e wz ⟨x9, own9, g9, rfl, hn9, ho9, hm9⟩; obtain ⟨HT, HZ⟩ := hear_done hn9 ho9 hm9 HC7.out; clear hn9 ho9 hm9))
        rw [HV.out]
        exact bodyPost_ret (results_cell_row rfl _ _ (w.heap.size + 1) 100 _ _ _ rfl (setRow_heap _ _ _ _ _ _ HZ.out) Try.underlying100 rfl (show _ = some 16 by kernel_rfl)) rfl HT.out
    · have n6 : w6.cell? ⟨w.heap.size, 6, none⟩ = some (.bool nt.yes) := HC6.out.c.c 6
      have HV := zh (hv.trans (if_neg (by simp)))
      clear hv
      go_upto_region 21 with (fail)
      go_quiet (fail)
      have HC7 := zh (HC6.out.drewN nq)
      clear HC6 n0 k1 j1 k3 j3 k5 j5 k7 j7 k2 j2 hp7 hp12 n2 n6
      generalize w6.drewN nq = w7 at *
      go_upto_region 31 with (fail)
      have HDn := zh (nddone_w _ i p q _ r.term r.who _ _ _ _ HC7.out.st)
      go_wp2_with (first
       | (refine wpList_store_rowTo rfl 100 (.tmp 8) (.tmp 186) rfl rfl _ (Ov.cells x9) rfl rfl 100 _ HZ.out (show _ = some 16 by kernel_rfl) rfl (ov_one x9) ?_)
       | (go_at_call 111; refine (HDn.out).mono ?_; rintro e wz ⟨x9, own9, g9, rfl, hn9, ho9, hm9⟩; obtain ⟨HT, HZ⟩ := hear_done hn9 ho9 hm9 HC7.out; clear hn9 ho9 hm9))
      rw [HV.out]
      exact bodyPost_ret (results_cell_row rfl _ _ (w.heap.size + 1) 100 _ _ _ rfl (setRow_heap _ _ _ _ _ _ HZ.out) Try.underlying100 rfl (show _ = some 16 by kernel_rfl)) rfl HT.out
  · have k1 : (nt.kind == 1) = false := by have := HK.out; simp; omega
    have j1 : ((nt.kind : Int) == 1) = false := by have := HK.out; simp; omega
    have k3 : (nt.kind == 3) = false := by have := HK.out; simp; omega
    have j3 : ((nt.kind : Int) == 3) = false := by have := HK.out; simp; omega
    have k5 : (nt.kind == 5) = false := by have := HK.out; simp; omega
    have j5 : ((nt.kind : Int) == 5) = false := by have := HK.out; simp; omega
    have k7 : (nt.kind == 7) = false := by have := HK.out; simp; omega
    have j7 : ((nt.kind : Int) == 7) = false := by have := HK.out; simp; omega
    have k2 : (nt.kind == 2) = false := by have := HK.out; simp; omega
    have j2 : ((nt.kind : Int) == 2) = false := by have := HK.out; simp; omega
    have k4 : (nt.kind == 4) = true := by have := HK.out; simp; omega
    have j4 : ((nt.kind : Int) == 4) = true := by have := HK.out; simp; omega
    have hv := hear_4 (r := r) (r' := r1) (f := f) (d := d) (old := old) HK.out Hr1.out Hold.out
    have hp7 := HC6.out.st.nd.crole
    cases old
    · by_cases h3 : r1.role = 2
      · have a1 : (r1.role == 2) = true := by simpa using h3
        have a2 : ((r1.role : Int) == 2) = true := by simp; omega
        have a3 : decide (r1.role = 2) = true := by simpa using h3
        rw [a3] at hv
        clear h3 a3
        rcases (Bool.eq_false_or_eq_true nt.yes).symm with h5 | h5
        · have n6 : w6.cell? ⟨w.heap.size, 6, none⟩ = some (.bool false) := (HC6.out.c.c 6).trans (by rw [← h5]; rfl)
          rw [h5] at hv
          have HV := zh (hv.trans (if_neg (by simp)))
          clear hv h5
          go_upto_region 31 with (fail)
          clear n0 k1 j1 k3 j3 k5 j5 k7 j7 k2 j2 k4 j4 hp7 n6 a1 a2
          have HDn := zh (nddone_w _ i p q _ r.term r.who _ _ _ _ HC6.out.st)
          go_wp2_with (first
           | (refine wpList_store_rowTo rfl 100 (.tmp 8) (.tmp 186) rfl rfl _ (Ov.cells x9) rfl rfl 100 _ HZ.out (show _ = some 16 by kernel_rfl) rfl (ov_one x9) ?_)
           | (go_at_call 111; refine (HDn.out).mono ?_; rintro e wz ⟨x9, own9, g9, rfl, hn9, ho9, hm9⟩; obtain ⟨HT, HZ⟩ := hear_done hn9 ho9 hm9 HC6.out; clear hn9 ho9 hm9))
          rw [HV.out]
          exact bodyPost_ret (results_cell_row rfl _ _ (w.heap.size + 1) 100 _ _ _ rfl (setRow_heap _ _ _ _ _ _ HZ.out) Try.underlying100 rfl (show _ = some 16 by kernel_rfl)) rfl HT.out
        · have n6 : w6.cell? ⟨w.heap.size, 6, none⟩ = some (.bool true) := (HC6.out.c.c 6).trans (by rw [← h5]; rfl)
          rw [h5] at hv
          have hv := hv.trans (if_pos rfl)
          have Hv := zh hv
          clear hv h5
          go_upto_region 25 with (fail)
          clear n0 k1 j1 k3 j3 k5 j5 k7 j7 k2 j2 k4 j4 hp7 n6 a1 a2
          have hf0 : (0 : Int) ≤ (f : Int) := by omega
          have hf7i : (f : Int) < 7 := by omega
          have hs := HC6.out.st.nd.cside hf7
          have hfs := HC6.out.st.nd.frozen (13 + f)
          go_upto_region 26 with (fail)
          have HC8 := zh (HC6.out.step (HC6.out.st.setp (13 + f) (.bool true) _ (set_side r1 g hf7 true) rfl rfl rfl) (Mv.set (a := ⟨p, 13 + f, none⟩) (.inl HC6.out.st.nd.op) _))
          clear HC6 hs hfs
          generalize w6.setCell ⟨p, 13 + f, none⟩ (.bool true) = w8 at *
          have Hmo := zh (most_w own4 i p g _ w8 HC8.out.st.nd Hb1.out.n7)
          cases hm : ({ r1 with sides := fun j => if j = f then true else r1.sides j } : RS.Rf).most
          · have HV := zh (Hv.out.trans (if_neg (by rw [hm]; decide)))
            rw [hm] at Hmo
            clear hm
            go_upto_region 31 with (go_at_call 115; refine (Hmo.out).mono ?_; rintro e w9 ⟨rfl, hS⟩; have HC9 := zh (HC8.out.same hS); clear hS)
            clear HC8 Hmo
            have HDn := zh (nddone_w _ i p q _ r.term r.who _ _ _ _ HC9.out.st)
            go_wp2_with (first
             | (refine wpList_store_rowTo rfl 100 (.tmp 8) (.tmp 186) rfl rfl _ (Ov.cells x9) rfl rfl 100 _ HZ.out (show _ = some 16 by kernel_rfl) rfl (ov_one x9) ?_)
             | (go_at_call 111; refine (HDn.out).mono ?_; rintro e wz ⟨x9, own9, g9, rfl, hn9, ho9, hm9⟩; obtain ⟨HT, HZ⟩ := hear_done hn9 ho9 hm9 HC9.out; clear hn9 ho9 hm9))
            rw [HV.out]
            exact bodyPost_ret (results_cell_row rfl _ _ (w.heap.size + 1) 100 _ _ _ rfl (setRow_heap _ _ _ _ _ _ HZ.out) Try.underlying100 rfl (show _ = some 16 by kernel_rfl)) rfl HT.out
          · have HV := zh (Hv.out.trans (if_pos hm))
            rw [hm] at Hmo
            clear hm
            go_upto_region 27 with (go_at_call 115; refine (Hmo.out).mono ?_; rintro e w9 ⟨rfl, hS⟩; have HC9 := zh (HC8.out.same hS); clear hS)
            clear HC8 Hmo
            have Hle := zh (lead_w own4 i p q g r.term r.who _ Ov.zero RS.Ou.none w9 HC9.out.st M (Hb1.out.side f true) (by omega) rfl rfl rfl rfl (Nat.zero_le _) (Nat.zero_le _))
            go_upto_region 31 with (go_at_call 116; refine (Hle.out).mono ?_; rintro e wa ⟨⟨v7, rfl⟩, own7, x7, h7, _, m7⟩; have HCa := zh (HC9.out.step h7 m7); clear h7 m7)
            clear HC9 Hle
            have HDn := zh (nddone_w _ i p q _ r.term r.who _ _ _ _ HCa.out.st)
            go_wp2_with (first
             | (refine wpList_store_rowTo rfl 100 (.tmp 8) (.tmp 186) rfl rfl _ (Ov.cells x9) rfl rfl 100 _ HZ.out (show _ = some 16 by kernel_rfl) rfl (ov_one x9) ?_)
             | (go_at_call 111; refine (HDn.out).mono ?_; rintro e wz ⟨x9, own9, g9, rfl, hn9, ho9, hm9⟩; obtain ⟨HT, HZ⟩ := hear_done hn9 ho9 hm9 HCa.out; clear hn9 ho9 hm9))
            rw [HV.out]
            exact bodyPost_ret (results_cell_row rfl _ _ (w.heap.size + 1) 100 _ _ _ rfl (setRow_heap _ _ _ _ _ _ HZ.out) Try.underlying100 rfl (show _ = some 16 by kernel_rfl)) rfl HT.out
      · have a1 : (r1.role == 2) = false := by simpa using h3
        have a2 : ((r1.role : Int) == 2) = false := by simp; omega
        have a3 : decide (r1.role = 2) = false := by simpa using h3
        rw [a3] at hv
        clear h3 a3
        have n6 : w6.cell? ⟨w.heap.size, 6, none⟩ = some (.bool nt.yes) := HC6.out.c.c 6
        have HV := zh (hv.trans (if_neg (by simp)))
        clear hv
        go_upto_region 31 with (fail)
        clear n0 k1 j1 k3 j3 k5 j5 k7 j7 k2 j2 k4 j4 hp7 n6 a1 a2
        have HDn := zh (nddone_w _ i p q _ r.term r.who _ _ _ _ HC6.out.st)
        go_wp2_with (first
         | (refine wpList_store_rowTo rfl 100 (.tmp 8) (.tmp 186) rfl rfl _ (Ov.cells x9) rfl rfl 100 _ HZ.out (show _ = some 16 by kernel_rfl) rfl (ov_one x9) ?_)
         | (go_at_call 111; refine (HDn.out).mono ?_; rintro e wz ⟨x9, own9, g9, rfl, hn9, ho9, hm9⟩; obtain ⟨HT, HZ⟩ := hear_done hn9 ho9 hm9 HC6.out; clear hn9 ho9 hm9))
        rw [HV.out]
        exact bodyPost_ret (results_cell_row rfl _ _ (w.heap.size + 1) 100 _ _ _ rfl (setRow_heap _ _ _ _ _ _ HZ.out) Try.underlying100 rfl (show _ = some 16 by kernel_rfl)) rfl HT.out
    · have n6 : w6.cell? ⟨w.heap.size, 6, none⟩ = some (.bool nt.yes) := HC6.out.c.c 6
      have HV := zh (hv.trans (if_neg (by simp)))
      clear hv
      go_upto_region 31 with (fail)
      clear n0 k1 j1 k3 j3 k5 j5 k7 j7 k2 j2 k4 j4 hp7 n6
      have HDn := zh (nddone_w _ i p q _ r.term r.who _ _ _ _ HC6.out.st)
      go_wp2_with (first
       | (refine wpList_store_rowTo rfl 100 (.tmp 8) (.tmp 186) rfl rfl _ (Ov.cells x9) rfl rfl 100 _ HZ.out (show _ = some 16 by kernel_rfl) rfl (ov_one x9) ?_)
       | (go_at_call 111; refine (HDn.out).mono ?_; rintro e wz ⟨x9, own9, g9, rfl, hn9, ho9, hm9⟩; obtain ⟨HT, HZ⟩ := hear_done hn9 ho9 hm9 HC6.out; clear hn9 ho9 hm9))
      rw [HV.out]
      exact bodyPost_ret (results_cell_row rfl _ _ (w.heap.size + 1) 100 _ _ _ rfl (setRow_heap _ _ _ _ _ _ HZ.out) Try.underlying100 rfl (show _ = some 16 by kernel_rfl)) rfl HT.out
  · have k1 : (nt.kind == 1) = false := by have := HK.out; simp; omega
    have j1 : ((nt.kind : Int) == 1) = false := by have := HK.out; simp; omega
    have k3 : (nt.kind == 3) = false := by have := HK.out; simp; omega
    have j3 : ((nt.kind : Int) == 3) = false := by have := HK.out; simp; omega
    have k5 : (nt.kind == 5) = false := by have := HK.out; simp; omega
    have j5 : ((nt.kind : Int) == 5) = false := by have := HK.out; simp; omega
    have k7 : (nt.kind == 7) = false := by have := HK.out; simp; omega
    have j7 : ((nt.kind : Int) == 7) = false := by have := HK.out; simp; omega
    have k2 : (nt.kind == 2) = false := by have := HK.out; simp; omega
    have j2 : ((nt.kind : Int) == 2) = false := by have := HK.out; simp; omega
    have k4 : (nt.kind == 4) = false := by have := HK.out; simp; omega
    have j4 : ((nt.kind : Int) == 4) = false := by have := HK.out; simp; omega
    have k6 : (nt.kind == 6) = true := by have := HK.out; simp; omega
    have j6 : ((nt.kind : Int) == 6) = true := by have := HK.out; simp; omega
    have hv := hear_6 (r := r) (r' := r1) (f := f) (d := d) (old := old) HK.out Hr1.out Hold.out
    have hp7 := HC6.out.st.nd.crole
    cases old
    · by_cases h3 : r1.role = 3
      · have hn1 : 1 ≤ r1.next f := by have h1 := h3; rw [Hr1.out] at h1; have h2 := up_role h1; rw [Hr1.out, h2]; rw [h2] at h1; exact Hnx.out h1
        have a1 : (r1.role == 3) = true := by simpa using h3
        have a2 : ((r1.role : Int) == 3) = true := by simp; omega
        have a3 : decide (r1.role = 3) = true := by simpa using h3
        rw [a3] at hv
        clear h3 a3
        have HV := zh (hv.trans (if_pos rfl))
        clear hv
        go_upto_region 30 with (fail)
        clear n0 k1 j1 k3 j3 k5 j5 k7 j7 k2 j2 k4 j4 k6 j6 hp7 a1 a2
        have n0 : w6.cell? ⟨w.heap.size, 0, none⟩ = some (.int .u8 (nt.kind : Int)) := HC6.out.c.c 0
        have n1 : w6.cell? ⟨w.heap.size, 1, none⟩ = some (.int .u64 (nt.term : Int)) := HC6.out.c.c 1
        have n2 : w6.cell? ⟨w.heap.size, 2, none⟩ = some (.int .u64 (nt.round : Int)) := HC6.out.c.c 2
        have n3 : w6.cell? ⟨w.heap.size, 3, none⟩ = some (.int .u64 (nt.index : Int)) := HC6.out.c.c 3
        have n4 : w6.cell? ⟨w.heap.size, 4, none⟩ = some (.int .u64 (nt.at_ : Int)) := HC6.out.c.c 4
        have n5 : w6.cell? ⟨w.heap.size, 5, none⟩ = some (.int .u64 (nt.commit : Int)) := HC6.out.c.c 5
        have n6 : w6.cell? ⟨w.heap.size, 6, none⟩ = some (.bool nt.yes) := HC6.out.c.c 6
        have n7 : w6.cell? ⟨w.heap.size, 7, none⟩ = some (.slice pl nl cl) := HC6.out.c.c 7
        have n8 : w6.cell? ⟨w.heap.size, 8, none⟩ = some (.slice pd nd cd) := HC6.out.c.c 8
        have Had := zh (added_w own4 i p q g r.term r.who r1 Ov.zero w6 HC6.out.st M Hb1.out (by omega) f hf7 hn1 nt (by have h1 := Hmf.out.index.1; omega) pl pd nl cl nd cd)
        clear hn1
        go_upto_region 31 with (go_at_call 122; refine (Had.out).mono ?_; rintro e w7 ⟨⟨v7, rfl⟩, own7, x7, h7, _, m7⟩; have HC7 := zh (HC6.out.step h7 m7); clear h7 m7)
        clear HC6 Had n0 n1 n2 n3 n4 n5 n6 n7 n8
        have HDn := zh (nddone_w _ i p q _ r.term r.who _ _ _ _ HC7.out.st)
        go_wp2_with (first
         | (refine wpList_store_rowTo rfl 100 (.tmp 8) (.tmp 186) rfl rfl _ (Ov.cells x9) rfl rfl 100 _ HZ.out (show _ = some 16 by kernel_rfl) rfl (ov_one x9) ?_)
         | (go_at_call 111; refine (HDn.out).mono ?_; rintro e wz ⟨x9, own9, g9, rfl, hn9, ho9, hm9⟩; obtain ⟨HT, HZ⟩ := hear_done hn9 ho9 hm9 HC7.out; clear hn9 ho9 hm9))
        rw [HV.out]
        exact bodyPost_ret (results_cell_row rfl _ _ (w.heap.size + 1) 100 _ _ _ rfl (setRow_heap _ _ _ _ _ _ HZ.out) Try.underlying100 rfl (show _ = some 16 by kernel_rfl)) rfl HT.out
      · have a1 : (r1.role == 3) = false := by simpa using h3
        have a2 : ((r1.role : Int) == 3) = false := by simp; omega
        have a3 : decide (r1.role = 3) = false := by simpa using h3
        rw [a3] at hv
        clear h3 a3
        have HV := zh (hv.trans (if_neg (by simp)))
        clear hv
        go_upto_region 31 with (fail)
        clear n0 k1 j1 k3 j3 k5 j5 k7 j7 k2 j2 k4 j4 k6 j6 hp7 a1 a2
        have HDn := zh (nddone_w _ i p q _ r.term r.who _ _ _ _ HC6.out.st)
        go_wp2_with (first
         | (refine wpList_store_rowTo rfl 100 (.tmp 8) (.tmp 186) rfl rfl _ (Ov.cells x9) rfl rfl 100 _ HZ.out (show _ = some 16 by kernel_rfl) rfl (ov_one x9) ?_)
         | (go_at_call 111; refine (HDn.out).mono ?_; rintro e wz ⟨x9, own9, g9, rfl, hn9, ho9, hm9⟩; obtain ⟨HT, HZ⟩ := hear_done hn9 ho9 hm9 HC6.out; clear hn9 ho9 hm9))
        rw [HV.out]
        exact bodyPost_ret (results_cell_row rfl _ _ (w.heap.size + 1) 100 _ _ _ rfl (setRow_heap _ _ _ _ _ _ HZ.out) Try.underlying100 rfl (show _ = some 16 by kernel_rfl)) rfl HT.out
    · have HV := zh (hv.trans (if_neg (by simp)))
      clear hv
      go_upto_region 31 with (fail)
      clear n0 k1 j1 k3 j3 k5 j5 k7 j7 k2 j2 k4 j4 k6 j6 hp7
      have HDn := zh (nddone_w _ i p q _ r.term r.who _ _ _ _ HC6.out.st)
      go_wp2_with (first
       | (refine wpList_store_rowTo rfl 100 (.tmp 8) (.tmp 186) rfl rfl _ (Ov.cells x9) rfl rfl 100 _ HZ.out (show _ = some 16 by kernel_rfl) rfl (ov_one x9) ?_)
       | (go_at_call 111; refine (HDn.out).mono ?_; rintro e wz ⟨x9, own9, g9, rfl, hn9, ho9, hm9⟩; obtain ⟨HT, HZ⟩ := hear_done hn9 ho9 hm9 HC6.out; clear hn9 ho9 hm9))
      rw [HV.out]
      exact bodyPost_ret (results_cell_row rfl _ _ (w.heap.size + 1) 100 _ _ _ rfl (setRow_heap _ _ _ _ _ _ HZ.out) Try.underlying100 rfl (show _ = some 16 by kernel_rfl)) rfl HT.out
set_option maxRecDepth 100000 in
set_option maxHeartbeats 4000000 in
theorem hear_self_w (own : Own) (i p g : Nat) (r : RS.Rf) (w : World) (h : NdAt own w i p g r) (M : Nat) (hb : Nb M r) (f : Nat) (hf : f < r.n) (hfi : f = r.id) (nt : RS.Nt) (pl pd : Option Addr) (nl cl nd cd : Nat) (d : Nat) :
 Calls Try.prog 59 #[.pointer (some ⟨p, 0, none⟩), .int .i64 (f : Int), .agg #[.int .u8 (nt.kind : Int), .int .u64 (nt.term : Int), .int .u64 (nt.round : Int), .int .u64 (nt.index : Int), .int .u64 (nt.at_ : Int), .int .u64 (nt.commit : Int), .bool nt.yes, .slice pl nl cl, .slice pd nd cd], .int .u64 (d : Int)] w (Told own w (fun l => l = i ∨ l = 7) i p r RS.Ou.none) := by
 have hi7 := h.hi
 have hf7 : f < 7 := by have := hb.n7; omega
 obtain ⟨b1, b2, m1⟩ := bx2 own w (nca nt pl pd nl cl nd cd) #[.bool false, .bool false, .int .u8 0, .int .u64 0, .int .u64 0, .int .u64 0, .int .u64 0, .int .u64 0, .bool false, .slice none 0 0, .slice none 0 0, .bool false, .int .u64 0, .slice none 0 0, .slice none 0 0, .slice none 0 0] 31 100
 unfold nca at b1 b2 m1
 obtain ⟨w1, hw1⟩ : ∃ w1, ((w.alloc (.cells #[.int .u8 (nt.kind : Int), .int .u64 (nt.term : Int), .int .u64 (nt.round : Int), .int .u64 (nt.index : Int), .int .u64 (nt.at_ : Int), .int .u64 (nt.commit : Int), .bool nt.yes, .slice pl nl cl, .slice pd nd cd] 31)).alloc (.cells #[.bool false, .bool false, .int .u8 0, .int .u64 0, .int .u64 0, .int .u64 0, .int .u64 0, .int .u64 0, .bool false, .slice none 0 0, .slice none 0 0, .bool false, .int .u64 0, .slice none 0 0, .slice none 0 0, .slice none 0 0] 100)) = w1 := ⟨_, rfl⟩
 rw [hw1] at b1 b2 m1
 have HW := zh hw1
 have HN1 := zh (h.mv m1 id)
 have HZ1 := zh b2
 have HR := zh b2.row
 have HM1 := zh (m1.mono (L' := (fun l => l = i ∨ l = 7)) fun _ e => e.elim)
 clear h hw1 hb b1 b2 m1
 generalize ext own w.heap.size 9 = own1 at *
 have Hnone := zh (none_w own1 i p g r w1 HN1.out)
 have hp0 := HN1.out.cn
 have hp1 := HN1.out.cid
 have f1 : decide ((f : Int) < 0) = false := by simp
 have f2 : decide ((r.n : Int) ≤ (f : Int)) = false := by simp; omega
 have f3 : ((f : Int) == (r.id : Int)) = true := by simp; omega
 have f4 : (f == r.id) = true := by simp; omega
 have f5 : decide (r.n ≤ f) = false := by simp; omega
 have hfi' : (f : Int) = (r.id : Int) := by omega
 have Hfi := zh hfi
 clear hfi hfi'
 go_enter Try.func59, Try.ntmps59
 go_upto_region 1 with (fail)
 rw [HW.out]
 go_wp2_with (first
  | (refine wpList_store_rowTo rfl 100 (.tmp 8) (.tmp 40) rfl rfl _ (Ov.cells Ov.zero) rfl rfl 100 _ HR.out (show _ = some 16 by kernel_rfl) rfl (ov_one Ov.zero) ?_)
  | (go_at_call 106; refine (Hnone.out).mono ?_; rintro e w2 ⟨rfl, rfl⟩))
 exact bodyPost_ret (results_cell_row rfl _ _ (w.heap.size + 1) 100 _ _ _ rfl (setRow_heap _ _ _ _ _ _ HR.out) Try.underlying100 rfl (show _ = some 16 by kernel_rfl)) rfl (Told.fin (g' := g) HN1.out ⟨rfl, .inl ⟨rfl, rfl⟩, .inl ⟨rfl, rfl⟩⟩ HM1.out HZ1.out (Nat.le_succ _))
end
end Go.Proofs.Yteellfgiejnigaa
