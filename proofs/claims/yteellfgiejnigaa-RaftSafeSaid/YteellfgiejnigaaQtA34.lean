/- RaftSafe: G54. -/
import Derived.Test.YteellfgiejnigaaQtA00
import Derived.Test.YteellfgiejnigaaQtA31
import Derived.Test.YteellfgiejnigaaQtA33
namespace Go.Proofs.Yteellfgiejnigaa
open Go.ChangeShapes Go.WideShapes Go.ChangeAt Go.RowKit
set_option linter.unusedVariables false
section
variable {own own' own0 : Own} {w w' w0 : World} {a i N : Nat} {p g : Nat → Nat} {x : RS.W} {v : Wv} {L : Nat → Prop} {ov : Ov} {o : RS.Ou}
theorem WdAt.node (h : WdAt own w a p g x v) (m : Mv (fun l => l = i ∨ l = 7) own w own' w') {g9 : Nat} {r' : RS.Rf} (hi : i < x.n) (hn : NdAt own' w' i (p i) g9 r') (hrn : r'.n = (x.r i).n) : WdAt own' w' a p (fun j => if j = i then g9 else g j) (x.set i r') v := by
 have h7 := h.n7
 have hx : ∀ l, 10 ≤ l → ¬ (l = i ∨ l = 7) := fun l hl e => by omega
 refine ⟨h.n7, fun j hj => ?_, (m.same h.lt (by rw [h.oa]; exact hx 10 (by omega))).trans h.row, (m.lab a h.lt).trans h.oa, h.r.lab m (hx 11 (by omega)), h.u.lab m (hx 12 (by omega)), h.m.lab m (hx 13 (by omega)), h.c.lab m (hx 14 (by omega)),
  h.l.same (m.same h.l.lt (by rw [h.ol]; exact hx 15 (by omega))), (m.lab _ h.l.lt).trans h.ol, h.Tx, fun j hj => ?_⟩
 rotate_left
 · show (if j = i then r' else x.r j).n = v.N
   by_cases e : j = i
   · subst e; rw [if_pos rfl, hrn]; exact h.Nx _ hi
   · rw [if_neg e]; exact h.Nx j hj
 have hj' : j < x.n := hj
 show NdAt own' w' j (p j) (if j = i then g9 else g j) (if j = i then r' else x.r j)
 by_cases e : j = i
 · subst e; rw [if_pos rfl, if_pos rfl]; exact hn
 · rw [if_neg e, if_neg e]; exact (h.nd j hj').mv m (by omega)
theorem WdAt.ptr (h : WdAt own w a p g x v) (hi : i < x.n) : ∃ b off c, own b = 11 ∧ b < w.heap.size ∧ w.cell? ⟨a, 3, none⟩ = some (.slice (some ⟨b, off, none⟩) x.n c) ∧ w.cell? ⟨b, off + i, none⟩ = some (.pointer (some ⟨p i, 0, none⟩)) := by
 obtain ⟨b, off, c, cs, h1, h2, h3, h4, h5⟩ := h.r.rd.elem i (by rw [List.length_map, List.length_range]; exact hi)
 have h6 : cs = [.pointer (some ⟨p i, 0, none⟩)] := by have h7 : cs = [.pointer (some ⟨((List.range x.n).map p)[i]'(by rw [List.length_map, List.length_range]; exact hi), 0, none⟩)] := h5; rw [h7]; simp
 refine ⟨b, off, c, h2, h3, ?_, ?_⟩
 · refine (h.cell 3).trans ?_
   show some (Value.slice v.rp v.rn v.rc) = _
   rw [h1, List.length_map, List.length_range]
 · have h8 := h4 0 _ (by rw [h6]; rfl)
   rw [Nat.add_zero] at h8
   have h9 : i * ptrR.k = i := Nat.mul_one i
   rw [h9] at h8; exact h8
theorem WdAt.flag (h : WdAt own w a p g x v) (hi : i < x.n) : ∃ b off c, own b = 12 ∧ b < w.heap.size ∧ w.cell? ⟨a, 4, none⟩ = some (.slice (some ⟨b, off, none⟩) x.n c) ∧ w.cell? ⟨b, off + i, none⟩ = some (.bool (x.up i)) := by
 obtain ⟨b, off, c, cs, h1, h2, h3, h4, h5⟩ := h.u.rd.elem i (by rw [List.length_map, List.length_range]; exact hi)
 have h6 : cs = [.bool (x.up i)] := by have h7 : cs = [.bool (((List.range x.n).map x.up)[i]'(by rw [List.length_map, List.length_range]; exact hi))] := h5; rw [h7]; simp
 refine ⟨b, off, c, h2, h3, ?_, ?_⟩
 · refine (h.cell 4).trans ?_
   show some (Value.slice v.up v.un v.uc) = _
   rw [h1, List.length_map, List.length_range]
 · have h8 := h4 0 _ (by rw [h6]; rfl)
   rw [Nat.add_zero] at h8
   have h9 : i * boolR.k = i := Nat.mul_one i
   rw [h9] at h8; exact h8
def Wst (own : Own) (w : World) (a : Nat) (p : Nat → Nat) (x : RS.W) (w' : World) : Prop := ∃ own' g' v', WdAt own' w' a p g' x v' ∧ Mv (fun l => l ≠ 9) own w own' w'
set_option maxRecDepth 100000 in
set_option maxHeartbeats 4000000 in
theorem arrive_no_w (own : Own) (a : Nat) (p g : Nat → Nat) (x : RS.W) (v : Wv) (w : World) (h : WdAt own w a p g x v) (m : RS.Mail) (pl pd : Option Addr) (nl cl nd cd : Nat) (ag : Int) (hl : EsR w (fun b => own b = 13) (.slice pl nl cl) m.x.list) (hdt : DatA w (fun b => own b = 13) (.slice pd nd cd) [])
 (M : Nat) (hM : M ≤ 80000) (ht : m.to < x.n) (hf : m.from_ < x.n) (hmf : RS.Mf M m.x) (hb : Nb M (x.r m.to)) (hrn : (x.r m.to).n = x.n) (hri : (x.r m.to).id = m.to) (hnx : (x.r m.to).role = 3 → ∀ q, q < x.n → q ≠ m.to → 1 ≤ (x.r m.to).next q)
 (d : Nat) (hd : d < 2 ^ 64) (M' : Nat) (hM' : M' ≤ 90000) (hb' : Nb M' (x.heard m d).1) (hn' : (x.heard m d).1.n = (x.r m.to).n) (ho' : ∀ q ∈ (x.heard m d).2.send, RS.Mf M' q.2) (hm6 : x.mails.length ≤ 600) (hup : x.up m.to = false) :
 Calls Try.prog 99 #[.pointer (some ⟨a, 0, none⟩), .agg #[.int .i64 (m.from_ : Int), .int .i64 (m.to : Int), .int .u8 (m.x.kind : Int), .int .u64 (m.x.term : Int), .int .u64 (m.x.round : Int), .int .u64 (m.x.index : Int), .int .u64 (m.x.at_ : Int), .int .u64 (m.x.commit : Int), .bool m.x.yes, .slice pl nl cl, .slice pd nd cd, .int .i64 ag], .int .u64 (d : Int)] w fun e w' => (∃ v, e = .returned v) ∧ Wst own w a p (x.arrive m d) w' := by
 have hn7 := h.n7
 obtain ⟨w1, hw1⟩ : ∃ w1, w.alloc (.cells #[.int .i64 (m.from_ : Int), .int .i64 (m.to : Int), .int .u8 (m.x.kind : Int), .int .u64 (m.x.term : Int), .int .u64 (m.x.round : Int), .int .u64 (m.x.index : Int), .int .u64 (m.x.at_ : Int), .int .u64 (m.x.commit : Int), .bool m.x.yes, .slice pl nl cl, .slice pd nd cd, .int .i64 ag] 151) = w1 := ⟨_, rfl⟩
 have m1 : Mv (fun _ => False) own w (ext own w.heap.size 9) (w.alloc (.cells #[.int .i64 (m.from_ : Int), .int .i64 (m.to : Int), .int .u8 (m.x.kind : Int), .int .u64 (m.x.term : Int), .int .u64 (m.x.round : Int), .int .u64 (m.x.index : Int), .int .u64 (m.x.at_ : Int), .int .u64 (m.x.commit : Int), .bool m.x.yes, .slice pl nl cl, .slice pd nd cd, .int .i64 ag] 151)) := Mv.alloc own w _ 9
 have HX1 := zh (Bx.new own w #[.int .i64 (m.from_ : Int), .int .i64 (m.to : Int), .int .u8 (m.x.kind : Int), .int .u64 (m.x.term : Int), .int .u64 (m.x.round : Int), .int .u64 (m.x.index : Int), .int .u64 (m.x.at_ : Int), .int .u64 (m.x.commit : Int), .bool m.x.yes, .slice pl nl cl, .slice pd nd cd, .int .i64 ag] 151)
 have HD1 := zh (h.mv m1 fun l e => e.elim)
 have HL1 := zh ((footed_esr _ _).move (S' := fun b => ext own w.heap.size 9 b = 13) hl fun b hb e => ⟨(m1.lab b hb).trans e, m1.same hb id⟩)
 have HT1 := zh ((footed_dat _ _).move (S' := fun b => ext own w.heap.size 9 b = 13) hdt fun b hb e => ⟨(m1.lab b hb).trans e, m1.same hb id⟩)
 have HM1 := zh (m1.mono (L' := fun l => l ≠ 9) fun l e => e.elim)
 rw [hw1] at HX1 HD1 HL1 HT1 HM1
 have HW := zh hw1
 have Hb := zh hb
 have Hmf := zh hmf
 have Hnx := zh hnx
 have Hb' := zh hb'
 have Hn' := zh hn'
 have Ho' := zh ho'
 have Hri := zh hri
 have Hrn := zh hrn
 have Hup := zh hup
 clear h hl hdt hw1 m1 hb hmf hnx hb' hn' ho' hri hrn hup
 generalize ext own w.heap.size 9 = own1 at *
 obtain ⟨rb, ro, rc, hrb, hrlt, ha3, hpi⟩ := HD1.out.ptr ht
 obtain ⟨ub, uo, uc, hub, hult, ha4, hui⟩ := HD1.out.flag ht
 rw [Hup.out] at hui
 have hk0 : (0 : Int) ≤ (m.to : Int) := by omega
 have hki : (m.to : Int) < (x.n : Int) := by omega
 have d1 : decide ((0 : Int) ≤ (m.to : Int)) = true := by simp
 have d2 : decide ((m.to : Int) < (x.n : Int)) = true := by simpa using ht
 have d3 : decide (m.to < x.n) = true := by simpa using ht
 have c1 : w1.cell? ⟨w.heap.size, 1, none⟩ = some (.int .i64 (m.to : Int)) := HX1.out.c 1
 go_enter Try.func99, Try.ntmps99
 go_upto_region 1 with (fail)
 rw [HW.out]
 go_quiet (fail)
 have hm2 : Mv (fun _ => False) own1 w1 own1 (w1.drewN nq) := Mv.drewN own1 w1 nq
 have HX2 := zh (HX1.out.mv hm2 id)
 have HD2 := zh (HD1.out.mv hm2 fun l e => e.elim)
 have HL2 := zh ((footed_esr _ _).move (S' := fun b => own1 b = 13) HL1.out fun b hb e => ⟨e, hm2.same hb id⟩)
 have HT2 := zh ((footed_dat _ _).move (S' := fun b => own1 b = 13) HT1.out fun b hb e => ⟨e, hm2.same hb id⟩)
 have HM2 := zh (HM1.out.trans (hm2.mono fun l e => e.elim))
 clear hm2 HX1 HD1 HL1 HT1 HM1 HW ha3 ha4 hpi hui c1 d1 d2 d3 hrb hrlt hub hult
 generalize w1.drewN nq = w2 at *
 go_wp2
 go_end0
 have e : x.arrive m d = x := if_neg (fun h => by have h1 := h.2; rw [Hup.out] at h1; cases h1)
 rw [e]
 exact ⟨⟨_, rfl⟩, _, _, _, HD2.out, HM2.out⟩
set_option maxRecDepth 100000 in
set_option maxHeartbeats 4000000 in
theorem arrive_yes_w (own : Own) (a : Nat) (p g : Nat → Nat) (x : RS.W) (v : Wv) (w : World) (h : WdAt own w a p g x v) (m : RS.Mail) (pl pd : Option Addr) (nl cl nd cd : Nat) (ag : Int) (hl : EsR w (fun b => own b = 13) (.slice pl nl cl) m.x.list) (hdt : DatA w (fun b => own b = 13) (.slice pd nd cd) [])
 (M : Nat) (hM : M ≤ 80000) (ht : m.to < x.n) (hf : m.from_ < x.n) (hmf : RS.Mf M m.x) (hb : Nb M (x.r m.to)) (hrn : (x.r m.to).n = x.n) (hri : (x.r m.to).id = m.to) (hnx : (x.r m.to).role = 3 → ∀ q, q < x.n → q ≠ m.to → 1 ≤ (x.r m.to).next q)
 (d : Nat) (hd : d < 2 ^ 64) (M' : Nat) (hM' : M' ≤ 90000) (hb' : Nb M' (x.heard m d).1) (hn' : (x.heard m d).1.n = (x.r m.to).n) (ho' : ∀ q ∈ (x.heard m d).2.send, RS.Mf M' q.2) (hm6 : x.mails.length ≤ 600) (hup : x.up m.to = true) :
 Calls Try.prog 99 #[.pointer (some ⟨a, 0, none⟩), .agg #[.int .i64 (m.from_ : Int), .int .i64 (m.to : Int), .int .u8 (m.x.kind : Int), .int .u64 (m.x.term : Int), .int .u64 (m.x.round : Int), .int .u64 (m.x.index : Int), .int .u64 (m.x.at_ : Int), .int .u64 (m.x.commit : Int), .bool m.x.yes, .slice pl nl cl, .slice pd nd cd, .int .i64 ag], .int .u64 (d : Int)] w fun e w' => (∃ v, e = .returned v) ∧ Wst own w a p (x.arrive m d) w' := by
 have hn7 := h.n7
 obtain ⟨w1, hw1⟩ : ∃ w1, w.alloc (.cells #[.int .i64 (m.from_ : Int), .int .i64 (m.to : Int), .int .u8 (m.x.kind : Int), .int .u64 (m.x.term : Int), .int .u64 (m.x.round : Int), .int .u64 (m.x.index : Int), .int .u64 (m.x.at_ : Int), .int .u64 (m.x.commit : Int), .bool m.x.yes, .slice pl nl cl, .slice pd nd cd, .int .i64 ag] 151) = w1 := ⟨_, rfl⟩
 have m1 : Mv (fun _ => False) own w (ext own w.heap.size 9) (w.alloc (.cells #[.int .i64 (m.from_ : Int), .int .i64 (m.to : Int), .int .u8 (m.x.kind : Int), .int .u64 (m.x.term : Int), .int .u64 (m.x.round : Int), .int .u64 (m.x.index : Int), .int .u64 (m.x.at_ : Int), .int .u64 (m.x.commit : Int), .bool m.x.yes, .slice pl nl cl, .slice pd nd cd, .int .i64 ag] 151)) := Mv.alloc own w _ 9
 have HX1 := zh (Bx.new own w #[.int .i64 (m.from_ : Int), .int .i64 (m.to : Int), .int .u8 (m.x.kind : Int), .int .u64 (m.x.term : Int), .int .u64 (m.x.round : Int), .int .u64 (m.x.index : Int), .int .u64 (m.x.at_ : Int), .int .u64 (m.x.commit : Int), .bool m.x.yes, .slice pl nl cl, .slice pd nd cd, .int .i64 ag] 151)
 have HD1 := zh (h.mv m1 fun l e => e.elim)
 have HL1 := zh ((footed_esr _ _).move (S' := fun b => ext own w.heap.size 9 b = 13) hl fun b hb e => ⟨(m1.lab b hb).trans e, m1.same hb id⟩)
 have HT1 := zh ((footed_dat _ _).move (S' := fun b => ext own w.heap.size 9 b = 13) hdt fun b hb e => ⟨(m1.lab b hb).trans e, m1.same hb id⟩)
 have HM1 := zh (m1.mono (L' := fun l => l ≠ 9) fun l e => e.elim)
 rw [hw1] at HX1 HD1 HL1 HT1 HM1
 have HW := zh hw1
 have Hb := zh hb
 have Hmf := zh hmf
 have Hnx := zh hnx
 have Hb' := zh hb'
 have Hn' := zh hn'
 have Ho' := zh ho'
 have Hri := zh hri
 have Hrn := zh hrn
 have Hup := zh hup
 clear h hl hdt hw1 m1 hb hmf hnx hb' hn' ho' hri hrn hup
 generalize ext own w.heap.size 9 = own1 at *
 obtain ⟨rb, ro, rc, hrb, hrlt, ha3, hpi⟩ := HD1.out.ptr ht
 obtain ⟨ub, uo, uc, hub, hult, ha4, hui⟩ := HD1.out.flag ht
 rw [Hup.out] at hui
 have hk0 : (0 : Int) ≤ (m.to : Int) := by omega
 have hki : (m.to : Int) < (x.n : Int) := by omega
 have d1 : decide ((0 : Int) ≤ (m.to : Int)) = true := by simp
 have d2 : decide ((m.to : Int) < (x.n : Int)) = true := by simpa using ht
 have d3 : decide (m.to < x.n) = true := by simpa using ht
 have c1 : w1.cell? ⟨w.heap.size, 1, none⟩ = some (.int .i64 (m.to : Int)) := HX1.out.c 1
 go_enter Try.func99, Try.ntmps99
 go_upto_region 1 with (fail)
 rw [HW.out]
 go_quiet (fail)
 have hm2 : Mv (fun _ => False) own1 w1 own1 (w1.drewN nq) := Mv.drewN own1 w1 nq
 have HX2 := zh (HX1.out.mv hm2 id)
 have HD2 := zh (HD1.out.mv hm2 fun l e => e.elim)
 have HL2 := zh ((footed_esr _ _).move (S' := fun b => own1 b = 13) HL1.out fun b hb e => ⟨e, hm2.same hb id⟩)
 have HT2 := zh ((footed_dat _ _).move (S' := fun b => own1 b = 13) HT1.out fun b hb e => ⟨e, hm2.same hb id⟩)
 have HM2 := zh (HM1.out.trans (hm2.mono fun l e => e.elim))
 clear hm2 HX1 HD1 HL1 HT1 HM1 HW ha3 ha4 hpi hui c1 d1 d2 d3 hrb hrlt hub hult
 generalize w1.drewN nq = w2 at *
 go_upto_region 2 with (fail)
 obtain ⟨rb2, ro2, rc2, hrb, hrlt, ha3, hpi⟩ := HD2.out.ptr ht
 have c0 : w2.cell? ⟨w.heap.size, 0, none⟩ = some (.int .i64 (m.from_ : Int)) := HX2.out.c 0
 have c1 : w2.cell? ⟨w.heap.size, 1, none⟩ = some (.int .i64 (m.to : Int)) := HX2.out.c 1
 have c2 : w2.cell? ⟨w.heap.size, 2, none⟩ = some (.int .u8 (m.x.kind : Int)) := HX2.out.c 2
 have c3 : w2.cell? ⟨w.heap.size, 3, none⟩ = some (.int .u64 (m.x.term : Int)) := HX2.out.c 3
 have c4 : w2.cell? ⟨w.heap.size, 4, none⟩ = some (.int .u64 (m.x.round : Int)) := HX2.out.c 4
 have c5 : w2.cell? ⟨w.heap.size, 5, none⟩ = some (.int .u64 (m.x.index : Int)) := HX2.out.c 5
 have c6 : w2.cell? ⟨w.heap.size, 6, none⟩ = some (.int .u64 (m.x.at_ : Int)) := HX2.out.c 6
 have c7 : w2.cell? ⟨w.heap.size, 7, none⟩ = some (.int .u64 (m.x.commit : Int)) := HX2.out.c 7
 have c8 : w2.cell? ⟨w.heap.size, 8, none⟩ = some (.bool m.x.yes) := HX2.out.c 8
 have c9 : w2.cell? ⟨w.heap.size, 9, none⟩ = some (.slice pl nl cl) := HX2.out.c 9
 have c10 : w2.cell? ⟨w.heap.size, 10, none⟩ = some (.slice pd nd cd) := HX2.out.c 10
 have hm3 : Mv (fun _ => False) own1 w2 own1 w2.drew := Mv.drew _ own1 w2
 have HD3 := zh (HD2.out.mv hm3 fun l e => e.elim)
 have HL3 := zh ((footed_esr _ _).move (S' := Frn own1 m.to) HL2.out fun b hb e => ⟨by unfold Frn; rw [e]; omega, hm3.same hb id⟩)
 have HT3 := zh ((footed_dat _ _).move (S' := Frn own1 m.to) HT2.out fun b hb e => ⟨by unfold Frn; rw [e]; omega, hm3.same hb id⟩)
 have HM3 := zh (HM2.out.trans (hm3.mono fun l e => e.elim))
 have hN : w.heap.size < w2.heap.size ∧ ¬ (own1 w.heap.size = m.to ∨ own1 w.heap.size = 7) := ⟨HX2.out.lt, by rw [HX2.out.lab]; omega⟩
 have ha : a < w2.heap.size ∧ ¬ (own1 a = m.to ∨ own1 a = 7) := ⟨HD2.out.lt, by rw [HD2.out.oa]; omega⟩
 have hr : rb2 < w2.heap.size ∧ ¬ (own1 rb2 = m.to ∨ own1 rb2 = 7) := ⟨hrlt, by rw [hrb]; omega⟩
 have Hlt := zh (And.intro hN (And.intro ha hr))
 have H911 := zh (And.intro HX2.out.lab hrb)
 clear hm3 HD2 HL2 HT2 HM2 HX2 hrb hrlt hN ha hr
 have hh : Calls Try.prog 59 #[.pointer (some ⟨p m.to, 0, none⟩), .int .i64 (m.from_ : Int), .agg #[.int .u8 (m.x.kind : Int), .int .u64 (m.x.term : Int), .int .u64 (m.x.round : Int), .int .u64 (m.x.index : Int), .int .u64 (m.x.at_ : Int), .int .u64 (m.x.commit : Int), .bool m.x.yes, .slice pl nl cl, .slice pd nd cd], .int .u64 (d : Int)] w2.drew (Told own1 w2.drew (fun l => l = m.to ∨ l = 7) m.to (p m.to) (x.heard m d).1 (x.heard m d).2) := by
  unfold RS.W.heard
  by_cases e : m.from_ = m.to
  · rw [if_pos e]
    exact hear_self_w own1 m.to (p m.to) (g m.to) (x.r m.to) w2.drew (HD3.out.nd m.to ht) M Hb.out m.from_ (by rw [Hrn.out]; exact hf) (by rw [Hri.out]; exact e) m.x pl pd nl cl nd cd d
  · rw [if_neg e]
    exact hear_w own1 m.to (p m.to) (g m.to) (x.r m.to) w2.drew (HD3.out.nd m.to ht) M Hb.out hM m.from_ (by rw [Hrn.out]; exact hf) (by rw [Hri.out]; exact e) (fun h => Hnx.out h m.from_ hf e) m.x Hmf.out pl pd nl cl nd cd HL3.out HT3.out d hd
 have HH := zh hh
 clear hh
 have e9 : x.arrive m d = (x.set m.to (x.heard m d).1).sent m.to (x.heard m d).2 := if_pos ⟨ht, Hup.out⟩
 have E9 := zh e9
 clear e9
 generalize (x.heard m d).1 = r9 at *
 generalize (x.heard m d).2 = o9 at *
 go_region_held3 (fun W => W.cell? ⟨w.heap.size, 0, none⟩ = some (.int .i64 (m.from_ : Int)) ∧ W.cell? ⟨w.heap.size, 1, none⟩ = some (.int .i64 (m.to : Int)) ∧ W.cell? ⟨w.heap.size, 2, none⟩ = some (.int .u8 (m.x.kind : Int)) ∧ W.cell? ⟨w.heap.size, 3, none⟩ = some (.int .u64 (m.x.term : Int)) ∧ W.cell? ⟨w.heap.size, 4, none⟩ = some (.int .u64 (m.x.round : Int)) ∧ W.cell? ⟨w.heap.size, 5, none⟩ = some (.int .u64 (m.x.index : Int)) ∧ W.cell? ⟨w.heap.size, 6, none⟩ = some (.int .u64 (m.x.at_ : Int)) ∧ W.cell? ⟨w.heap.size, 7, none⟩ = some (.int .u64 (m.x.commit : Int)) ∧ W.cell? ⟨w.heap.size, 8, none⟩ = some (.bool m.x.yes) ∧ W.cell? ⟨w.heap.size, 9, none⟩ = some (.slice pl nl cl) ∧ W.cell? ⟨w.heap.size, 10, none⟩ = some (.slice pd nd cd) ∧ W.cell? ⟨a, 3, none⟩ = some (.slice (some ⟨rb2, ro2, none⟩) x.n rc2) ∧ W.cell? ⟨rb2, ro2 + m.to, none⟩ = some (.pointer (some ⟨p m.to, 0, none⟩))) (go_keep) (first
  | (go_at_call 59; refine (HH.out).mono ?_; rintro e w4 ⟨x9, own9, g9, rfl, hn9, ho9, hm9⟩; have HN9 := zh (HD3.out.node hm9 ht hn9 Hn'.out); have HM9 := zh (HM3.out.trans (hm9.mono fun l e => by omega)); have Hse := zh (sent_w own9 a p _ (x.set m.to r9) v w4 HN9.out m.to ht M' (show Nb M' (if m.to = m.to then r9 else x.r m.to) by rw [if_pos rfl]; exact Hb'.out) hM' x9 o9 ho9 Ho'.out hm6); have hsm : ∀ b, b < w2.heap.size ∧ ¬ (own1 b = m.to ∨ own1 b = 7) → ∀ k, w4.cell? ⟨b, k, none⟩ = w2.cell? ⟨b, k, none⟩ := fun b hb k => World.cell?_of_block (a := ⟨b, k, none⟩) (hm9.same hb.1 hb.2); have hN := Hlt.out.1; have ha := Hlt.out.2.1; have hr := Hlt.out.2.2; have y0 : w4.cell? ⟨w.heap.size, 0, none⟩ = some (.int .i64 (m.from_ : Int)) := (hsm w.heap.size hN _).trans c0; have y1 : w4.cell? ⟨w.heap.size, 1, none⟩ = some (.int .i64 (m.to : Int)) := (hsm w.heap.size hN _).trans c1; have y2 : w4.cell? ⟨w.heap.size, 2, none⟩ = some (.int .u8 (m.x.kind : Int)) := (hsm w.heap.size hN _).trans c2; have y3 : w4.cell? ⟨w.heap.size, 3, none⟩ = some (.int .u64 (m.x.term : Int)) := (hsm w.heap.size hN _).trans c3; have y4 : w4.cell? ⟨w.heap.size, 4, none⟩ = some (.int .u64 (m.x.round : Int)) := (hsm w.heap.size hN _).trans c4; have y5 : w4.cell? ⟨w.heap.size, 5, none⟩ = some (.int .u64 (m.x.index : Int)) := (hsm w.heap.size hN _).trans c5; have y6 : w4.cell? ⟨w.heap.size, 6, none⟩ = some (.int .u64 (m.x.at_ : Int)) := (hsm w.heap.size hN _).trans c6; have y7 : w4.cell? ⟨w.heap.size, 7, none⟩ = some (.int .u64 (m.x.commit : Int)) := (hsm w.heap.size hN _).trans c7; have y8 : w4.cell? ⟨w.heap.size, 8, none⟩ = some (.bool m.x.yes) := (hsm w.heap.size hN _).trans c8; have y9 : w4.cell? ⟨w.heap.size, 9, none⟩ = some (.slice pl nl cl) := (hsm w.heap.size hN _).trans c9; have y10 : w4.cell? ⟨w.heap.size, 10, none⟩ = some (.slice pd nd cd) := (hsm w.heap.size hN _).trans c10; have y11 : w4.cell? ⟨a, 3, none⟩ = some (.slice (some ⟨rb2, ro2, none⟩) x.n rc2) := (hsm a ha _).trans ha3; have y12 : w4.cell? ⟨rb2, ro2 + m.to, none⟩ = some (.pointer (some ⟨p m.to, 0, none⟩)) := (hsm rb2 hr _).trans hpi; have Hsz := zh (show w.heap.size < w4.heap.size ∧ rb2 < w4.heap.size ∧ own9 w.heap.size = 9 ∧ own9 rb2 = 11 from ⟨Nat.lt_of_lt_of_le hN.1 hm9.t.size, Nat.lt_of_lt_of_le hr.1 hm9.t.size, (hm9.lab _ hN.1).trans H911.out.1, (hm9.lab _ hr.1).trans H911.out.2⟩); clear hn9 ho9 hm9 hsm hN ha hr)
  | (go_at_call 98; refine (Hse.out).mono ?_; rintro e w5 ⟨⟨v5, rfl⟩, own5, v6, h5, m5, k5⟩; have H5 := zh h5; have HM5 := zh (HM9.out.trans (m5.mono fun l e => by omega)); have hN2 := Hlt.out.1.1; have hr2 := Hlt.out.2.2.1; have sN : ∀ k, w5.cell? ⟨w.heap.size, k, none⟩ = w4.cell? ⟨w.heap.size, k, none⟩ := fun k => World.cell?_of_block (a := ⟨w.heap.size, k, none⟩) (m5.same Hsz.out.1 (by rw [Hsz.out.2.2.1]; decide)); have z0 : w5.cell? ⟨w.heap.size, 0, none⟩ = some (.int .i64 (m.from_ : Int)) := (sN _).trans y0; have z1 : w5.cell? ⟨w.heap.size, 1, none⟩ = some (.int .i64 (m.to : Int)) := (sN _).trans y1; have z2 : w5.cell? ⟨w.heap.size, 2, none⟩ = some (.int .u8 (m.x.kind : Int)) := (sN _).trans y2; have z3 : w5.cell? ⟨w.heap.size, 3, none⟩ = some (.int .u64 (m.x.term : Int)) := (sN _).trans y3; have z4 : w5.cell? ⟨w.heap.size, 4, none⟩ = some (.int .u64 (m.x.round : Int)) := (sN _).trans y4; have z5 : w5.cell? ⟨w.heap.size, 5, none⟩ = some (.int .u64 (m.x.index : Int)) := (sN _).trans y5; have z6 : w5.cell? ⟨w.heap.size, 6, none⟩ = some (.int .u64 (m.x.at_ : Int)) := (sN _).trans y6; have z7 : w5.cell? ⟨w.heap.size, 7, none⟩ = some (.int .u64 (m.x.commit : Int)) := (sN _).trans y7; have z8 : w5.cell? ⟨w.heap.size, 8, none⟩ = some (.bool m.x.yes) := (sN _).trans y8; have z9 : w5.cell? ⟨w.heap.size, 9, none⟩ = some (.slice pl nl cl) := (sN _).trans y9; have z10 : w5.cell? ⟨w.heap.size, 10, none⟩ = some (.slice pd nd cd) := (sN _).trans y10; have z11 : w5.cell? ⟨a, 3, none⟩ = some (.slice (some ⟨rb2, ro2, none⟩) x.n rc2) := (k5 3 (by decide)).trans y11; have z12 : w5.cell? ⟨rb2, ro2 + m.to, none⟩ = some (.pointer (some ⟨p m.to, 0, none⟩)) := (World.cell?_of_block (a := ⟨rb2, ro2 + m.to, none⟩) (m5.same Hsz.out.2.1 (by rw [Hsz.out.2.2.2]; decide))).trans y12; clear h5 m5 k5 hN2 hr2 sN))
 rename_i hHeld
 clear hHeld
 go_wp2
 go_end0
 rw [E9.out]
 exact ⟨⟨_, rfl⟩, _, _, _, H5.out, HM5.out⟩
set_option maxRecDepth 100000 in
set_option maxHeartbeats 4000000 in
theorem arrive_w (own : Own) (a : Nat) (p g : Nat → Nat) (x : RS.W) (v : Wv) (w : World) (h : WdAt own w a p g x v) (m : RS.Mail) (pl pd : Option Addr) (nl cl nd cd : Nat) (ag : Int) (hl : EsR w (fun b => own b = 13) (.slice pl nl cl) m.x.list) (hdt : DatA w (fun b => own b = 13) (.slice pd nd cd) [])
 (M : Nat) (hM : M ≤ 80000) (ht : m.to < x.n) (hf : m.from_ < x.n) (hmf : RS.Mf M m.x) (hb : Nb M (x.r m.to)) (hrn : (x.r m.to).n = x.n) (hri : (x.r m.to).id = m.to) (hnx : (x.r m.to).role = 3 → ∀ q, q < x.n → q ≠ m.to → 1 ≤ (x.r m.to).next q)
 (d : Nat) (hd : d < 2 ^ 64) (M' : Nat) (hM' : M' ≤ 90000) (hb' : Nb M' (x.heard m d).1) (hn' : (x.heard m d).1.n = (x.r m.to).n) (ho' : ∀ q ∈ (x.heard m d).2.send, RS.Mf M' q.2) (hm6 : x.mails.length ≤ 600) :
 Calls Try.prog 99 #[.pointer (some ⟨a, 0, none⟩), .agg #[.int .i64 (m.from_ : Int), .int .i64 (m.to : Int), .int .u8 (m.x.kind : Int), .int .u64 (m.x.term : Int), .int .u64 (m.x.round : Int), .int .u64 (m.x.index : Int), .int .u64 (m.x.at_ : Int), .int .u64 (m.x.commit : Int), .bool m.x.yes, .slice pl nl cl, .slice pd nd cd, .int .i64 ag], .int .u64 (d : Int)] w fun e w' => (∃ v, e = .returned v) ∧ Wst own w a p (x.arrive m d) w' := by
 cases hup : x.up m.to
 · exact arrive_no_w own a p g x v w h m pl pd nl cl nd cd ag hl hdt M hM ht hf hmf hb hrn hri hnx d hd M' hM' hb' hn' ho' hm6 hup
 · exact arrive_yes_w own a p g x v w h m pl pd nl cl nd cd ag hl hdt M hM ht hf hmf hb hrn hri hnx d hd M' hM' hb' hn' ho' hm6 hup
end
end Go.Proofs.Yteellfgiejnigaa
