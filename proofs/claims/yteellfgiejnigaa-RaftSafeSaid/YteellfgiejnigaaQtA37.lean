/- RaftSafe: G57, G58. -/
import Derived.Test.YteellfgiejnigaaQtA00
import Derived.Test.YteellfgiejnigaaQtA36
import Derived.Maps.RangeWalk
namespace Go.Proofs.Yteellfgiejnigaa
open Go.ChangeShapes Go.WideShapes Go.ChangeAt Go.RowKit
set_option linter.unusedVariables false
section
variable {own own' own0 : Own} {w w' w0 : World} {a i N : Nat} {p g : Nat → Nat} {x : RS.W} {v : Wv} {L : Nat → Prop}
theorem WdAt.comm (h : WdAt own w a p g x v) (m : Mv (fun l => l = 14) own w own' w') {cp : Option Addr} {cn cc : Nat} {cm : List Ent} (hc : EsG w' (fun b => own' b = 14) 53 (.slice cp cn cc) cm) :
 WdAt own' (w'.setCell ⟨a, 7, none⟩ (.slice cp cn cc)) a p g { x with cm := cm } { v with cp := cp, cn := cn, cc := cc } ∧ Mv (fun l => l = 10 ∨ l = 14) own w own' (w'.setCell ⟨a, 7, none⟩ (.slice cp cn cc)) := by
 have h7 := h.n7
 have hrow : w'.heap[a]? = some (.cells v.cells 147) := (m.same h.lt (by rw [h.oa]; decide)).trans h.row
 have hoa : own' a = 10 := (m.lab a h.lt).trans h.oa
 have m2 : Mv (fun l => l = 10) own' w' own' (w'.setCell ⟨a, 7, none⟩ (.slice cp cn cc)) := Mv.set (L := fun l => l = 10) (a := ⟨a, 7, none⟩) hoa _
 have m3 : Mv (fun l => l = 10 ∨ l = 14) own w own' (w'.setCell ⟨a, 7, none⟩ (.slice cp cn cc)) := (m.mono fun l e => .inr e).trans (m2.mono fun l e => .inl e)
 exact ⟨⟨h.n7, fun i hi => (h.nd i hi).mv m3 (by have hi2 : i < x.n := hi; omega), heap_setCell_same hrow _, hoa, h.r.lab m3 (by decide), h.u.lab m3 (by decide), h.m.lab m3 (by decide), hc.lab m2 (by decide), h.l.same (m3.same h.l.lt (by rw [h.ol]; decide)), (m3.lab _ h.l.lt).trans h.ol, h.Tx, h.Nx⟩, m3⟩
abbrev RC (own : Own) (wr : World) (v : Wv) (cm : List Ent) : World → World → Prop := RegR (.slice v.cp v.cn v.cc) (fun b => own b = 14 ∧ b < wr.heap.size) wr.heap.size cm
theorem RC.same {wr W : World} {cm : List Ent} (h : EsG wr (fun b => own b = 14) 53 (.slice v.cp v.cn v.cc) cm) (hR : RC own wr v cm wr.drew W) {b : Nat} (hb : b < wr.heap.size) (hn : own b ≠ 14) : W.heap[b]? = wr.heap[b]? :=
 hR.1.block b hb fun e => e.elim (fun e => hn (h.foot b e).1) (fun e => by have e : wr.heap.size ≤ b := e; omega)
theorem RC.mv {wr W : World} {cm : List Ent} (h : EsG wr (fun b => own b = 14) 53 (.slice v.cp v.cn v.cc) cm) (hR : RC own wr v cm wr.drew W) : Mv (fun l => l = 14) own wr (ext own wr.heap.size 14) W :=
 ⟨⟨hR.1.os, hR.1.tape, hR.1.output, hR.1.size, fun b hb hn => RC.same h hR hb hn⟩, fun b hb => ext_lt hb⟩
theorem comm_append {wr W : World} {cm : List Ent} (h : EsG wr (fun b => own b = 14) 53 (.slice v.cp v.cn v.cc) cm) (hl : cm.length ≤ 1000000) (hR : RC own wr v cm wr.drew W) {N t : Nat} {d : List UInt8} {q : Option Addr} {c : Nat} (hE : EntAt W N t (.slice q d.length c)) (hd : DatA W (fun b => wr.heap.size ≤ b) (.slice q d.length c) d) (ht : t < 2 ^ 64) :
 ∃ v' w', (Builtin.append_ #[28, 28] 28 #[.slice v.cp v.cn v.cc, .slice (some ⟨N, 0, none⟩) 1 1]).run Try.prog W = .ok v' w' ∧ EsG w' (fun b => ext own wr.heap.size 14 b = 14) 53 v' (cm ++ [(t, d)]) ∧ RC own wr v cm W w' := by
 have h0 := h.mono (S' := fun b => own b = 14 ∧ b < wr.heap.size) fun b hb e => ⟨e, hb⟩
 have hsz : wr.heap.size ≤ W.heap.size := hR.1.size
 obtain ⟨v', w', hr, ho', hg, hnew, hold⟩ := run_append_esg (P := Try.prog) (t := 28) (ty := 28) (c := 1) (S' := fun b => ext own wr.heap.size 14 b = 14) helE (hR.2 (h0.keeps (Keeps.refl wr).drew))
  (EsC.cons ht (hd.mono fun b _ hb => ⟨ext_ge hb, fun e => by have := (h.foot b e).2; have hb : wr.heap.size ≤ b := hb; omega⟩) .nil) (.inr ⟨⟨N, 0, none⟩, rfl, fun j u hu => ent_cells hE j u hu⟩)
  (by unfold maxLen; simp; omega) (by simp; omega) (fun b hb => (ext_lt hb.2).trans hb.1) (ext_ge hsz)
 exact ⟨v', w', hr, ho', Touch.of_grownBy hg fun b e => .inl e, fun _ => hold⟩
structure ToC (own0 : Own) (w0 : World) (own : Own) (w : World) (a : Nat) (p g : Nat → Nat) (x : RS.W) (v : Wv) (lp : Option Addr) (m lc : Nat) (l : List Ent) : Prop where
 wd : WdAt own w a p g x v
 ls : EsR w (fun b => own b = 9) (.slice lp m lc) l
 m : Mv (fun l => l = 10 ∨ l = 14) own0 w0 own w
 k : ∀ k, k ≠ 7 → w.cell? ⟨a, k, none⟩ = w0.cell? ⟨a, k, none⟩
theorem ToC.same {lp : Option Addr} {m lc : Nat} {l : List Ent} (h : ToC own0 w0 own w a p g x v lp m lc l) (hS : RegT.Same w w') : ToC own0 w0 own w' a p g x v lp m lc l :=
 ⟨h.wd.mv (L := fun _ => False) (Mv.same0 hS) fun l e => e.elim, h.ls.frame fun b _ => by rw [hS.heap], h.m.trans (Mv.same0 hS), fun k hk => (hS.cell rfl).trans (h.k k hk)⟩
theorem ToC.comm {lp : Option Addr} {m lc : Nat} {l : List Ent} (h : ToC own0 w0 own w a p g x v lp m lc l) (m1 : Mv (fun l => l = 14) own w own' w') {cp : Option Addr} {cn cc : Nat} {cm : List Ent} (hc : EsG w' (fun b => own' b = 14) 53 (.slice cp cn cc) cm) :
 ToC own0 w0 own' (w'.setCell ⟨a, 7, none⟩ (.slice cp cn cc)) a p g { x with cm := cm } { v with cp := cp, cn := cn, cc := cc } lp m lc l := by
 obtain ⟨h1, m3⟩ := h.wd.comm m1 hc
 exact ⟨h1, (footed_esr _ _).move h.ls fun b hb e => ⟨(m3.lab b hb).trans e, m3.same hb (by rw [e]; decide)⟩, h.m.trans m3, fun k hk => (World.cell?_setCell_other w' ⟨a, 7, none⟩ ⟨a, k, none⟩ _ (fun e => hk (by cases e; rfl))).trans ((World.cell?_of_block (a := ⟨a, k, none⟩) (m1.same h.wd.lt (by rw [h.wd.oa]; decide))).trans (h.k k hk))⟩
theorem tell_step (cm : List Ent) (l : List Ent) {b k : Nat} (hb : b ≤ cm.length) (hk : k < l.length) : (cm ++ (l.take (k + 1)).drop (cm.length - b)) = if b + k < cm.length then cm ++ (l.take k).drop (cm.length - b) else (cm ++ (l.take k).drop (cm.length - b)) ++ [l[k]] := by
 have h1 : l.take (k + 1) = l.take k ++ [l[k]] := List.take_succ_eq_append_getElem hk
 have h2 : (l.take k).length = k := by rw [List.length_take]; omega
 split
 · rename_i h
   rw [List.drop_eq_nil_of_le (by rw [List.length_take]; omega), List.drop_eq_nil_of_le (by omega)]
 · rename_i h
   rw [h1, List.drop_append_of_le_length (by omega), List.append_assoc]
theorem sliceR_all (B m : Nat) (es : List Ent) (hm : m ≤ es.length) : sliceR B es (B + 1) (m : Int) = es.take m := by
 unfold sliceR
 by_cases h : B + 1 ≤ B ∨ B + es.length < B + 1 ∨ (m : Int) < 1
 · rw [if_pos h]
   have : m = 0 := by omega
   rw [this, List.take_zero]
 · rw [if_neg h, show B + 1 - B - 1 = 0 by omega, List.drop_zero, Int.toNat_natCast]
set_option maxRecDepth 100000 in
set_option maxHeartbeats 4000000 in
theorem told_w (own : Own) (a : Nat) (p g : Nat → Nat) (x : RS.W) (v : Wv) (w : World) (h : WdAt own w a p g x v) (i : Nat) (hi : i < x.n) (M : Nat) (hb : Nb M (x.r i)) (hM : M ≤ 90000) (hl : RS.Look x i) (hcm : x.cm.length ≤ 100000) :
 Calls Try.prog 102 #[.pointer (some ⟨a, 0, none⟩), .pointer (some ⟨p i, 0, none⟩)] w fun e w' => e = .returned (.bool true) ∧ ∃ own' v', WdAt own' w' a p g { x with cm := RS.tell x.cm (x.r i) } v' ∧ Mv (fun l => l = 10 ∨ l = 14) own w own' w' ∧ ∀ k, k ≠ 7 → w'.cell? ⟨a, k, none⟩ = w.cell? ⟨a, k, none⟩ := by
 have hn7 := h.n7
 obtain ⟨B, hB⟩ : ∃ n, n = (x.r i).base := ⟨_, rfl⟩
 obtain ⟨T, hT⟩ : ∃ n, n = (x.r i).bt := ⟨_, rfl⟩
 obtain ⟨C, hC⟩ : ∃ n, n = (x.r i).commit := ⟨_, rfl⟩
 obtain ⟨m, hm⟩ : ∃ n, n = C - B := ⟨_, rfl⟩
 have hbc : B ≤ C := by rw [hB, hC]; exact hl.bc
 have hbm : B ≤ x.cm.length := by rw [hB]; exact hl.bm
 have hBM : B ≤ M := by rw [hB]; exact hb.base
 have hCM : C ≤ M := by rw [hC]; exact hb.commit
 have hme : m ≤ (x.r i).es.length := by have h1 := hl.len; rw [List.length_take, ← hB, ← hC] at h1; omega
 have hcm0 : (C : Int) - (B : Int) = (m : Int) := by omega
 have hv7 : w.cell? ⟨a, 7, none⟩ = some (.slice v.cp v.cn v.cc) := h.cell 7
 have hcn : v.cn = x.cm.length := by obtain ⟨_, _, e⟩ := h.c.form; injection e
 have Hcn := zh hcn
 clear hcn
 have Htr := zh (track_w own i (p i) (g i) (x.r i) w (h.nd i hi) M hb)
 rw [← hB, ← hT] at Htr
 have HD := zh h
 have Hb := zh hb
 have Hl := zh hl
 have HBC := zh (And.intro hB (And.intro hT hC))
 have Hm := zh hm
 have Hv7 := zh hv7
 clear h hb hl hB hT hC hv7 hm
 go_enter Try.func102, Try.ntmps102
 go_upto_region 2 with (go_at_call 66; refine (Htr.out).mono ?_; rintro e w1 ⟨N1, v1, rfl, hN1, htk, hB1⟩; have HT1 := zh htk; have HB1 := zh hB1; clear hB1 htk)
 have Hbs := zh (base_w _ N1 B T v1 (x.r i).es w1 HT1.out)
 go_upto_region 3 with (go_at_call 42; refine (Hbs.out).mono ?_; rintro e w2 ⟨rfl, hB2⟩; have HB2 := zh (HB1.out.trans (hB2.mono HB1.out.size)); have HT2 := zh (HT1.out.keeps hB2.block); clear hB2)
 have HD2 := zh (HD.out.mv (L := fun _ => False) (Mv.of_below HB2.out 9) fun l e => e.elim)
 have Hco := zh (commit_w _ i (p i) (g i) (x.r i) w2 (HD2.out.nd i hi))
 rw [← HBC.out.2.2] at Hco
 clear HB1 HT1 Hbs Htr
 go_upto_region 4 with (go_at_call 65; refine (Hco.out).mono ?_; rintro e w3 ⟨rfl, rfl⟩)
 go_cut [50] from 51 (fun t wx => Hid (t = .bool false ∧ wx = w2))
 case first =>
  have hcn := Hcn.out
  have d1 : decide ((C : Int) < (B : Int)) = false := by simp; omega
  have d1' : decide (C < B) = false := by simp; omega
  have d2 : decide ((v.cn : Int) < (B : Int)) = false := by simp; omega
  have d2' : decide (v.cn < B) = false := by simp; omega
  have c1 : IntKind.u64.wrap (v.cn : Int) = (v.cn : Int) := IntWalk.u64_in _ (by omega)
  clear hcn
  have hv := (World.cell?_of_block (a := ⟨a, 7, none⟩) (HB2.out.block a HD.out.lt)).trans Hv7.out
  by_cases hz : B = 0
  · have d3 : decide ((0 : Int) < (B : Int)) = false := by simp; omega
    have d3' : decide (0 < B) = false := by simp; omega
    clear hz
    go_wp2
    go_meet
    exact zh ⟨rfl, rfl⟩
  · have hcn := Hcn.out
    have d3 : decide ((0 : Int) < (B : Int)) = true := by simp; omega
    have d3' : decide (0 < B) = true := by simp; omega
    obtain ⟨eb, eo, ec, ed, hsv, heb, helt, het, hed, hdd, htl⟩ := HD2.out.c.rd.elemF (B - 1) (by omega)
    have hterm : (x.cm[B - 1]'(by omega)).1 = T := by
     have h1 := Hl.out.at_
     rw [← HBC.out.1, ← HBC.out.2.1, show B = (B - 1) + 1 by omega, RS.tAt_succ, List.getElem?_eq_getElem (by omega)] at h1
     exact h1
    rw [hterm] at het
    have e1 : v.cp = some ⟨eb, eo, none⟩ := by injection hsv
    rw [e1] at hv
    have hs0 : (0 : Int) ≤ (B : Int) - 1 := by omega
    have hs1 : (B : Int) - 1 < (v.cn : Int) := by omega
    have hs2 : ((B : Int) - 1).toNat = B - 1 := by omega
    have hs3 : IntKind.u64.wrap ((B : Int) - 1) = (B : Int) - 1 := IntWalk.u64_in _ (by omega)
    clear hsv heb hed hdd htl hterm helt e1 hz hcn
    go_wp2
    go_meet
    exact zh ⟨rfl, rfl⟩
 case rest =>
  obtain ⟨rfl, rfl⟩ := hcut.out
  clear hcut
  have c2 : IntKind.u64.wrap ((C : Int) - (B : Int)) = (C : Int) - (B : Int) := IntWalk.u64_in _ (by omega)
  have c3 : IntKind.u64.wrap ((B : Int) + 1) = (B : Int) + 1 := IntWalk.u64_in _ (by omega)
  have Hsl0 := slice_w _ N1 B T (B + 1) (m : Int) v1 (x.r i).es wc HT2.out (by have := Hb.out.len; omega) (fun e he => by have := (Hb.out.es e he).2; omega) (by omega) (by omega)
  rw [sliceR_all B m _ hme] at Hsl0
  have Hsl := zh (show Calls Try.prog 25 #[.pointer (some ⟨N1, 0, none⟩), .int .u64 ((B : Int) + 1), .int .i64 (m : Int)] wc _ from Hsl0)
  clear Hsl0
  go_upto_region 7 with (go_at_call 25; refine (Hsl.out).mono ?_; rintro e w4 ⟨us, rfl, hus, hB4⟩; have HU := zh hus; have HB4 := zh (HB2.out.trans (hB4.mono HB2.out.size)); clear hus hB4)
  obtain ⟨l, hl0⟩ : ∃ l, l = (x.r i).es.take m := ⟨_, rfl⟩
  have hll : l.length = m := by rw [hl0, List.length_take]; omega
  rw [← hl0] at HU
  obtain ⟨lp, lc, rfl⟩ := HU.out.form
  have Hl0 := zh hl0
  have Hll := zh hll
  have c4 : IntKind.u64.wrap (m : Int) = (m : Int) := IntWalk.u64_in _ (by omega)
  rw [hll] at HU ⊢
  clear hl0 hll c3
  have d4 : ((m : Int) != (m : Int)) = false := by simp
  go_upto_region 9 with (fail)
  clear c4 d4 c2
  have hmv : Mv (fun l => l = 10 ∨ l = 14) own w (ext own w.heap.size 9) w4 := Mv.of_below HB4.out 9
  have HS5 := zh (show ToC own w (ext own w.heap.size 9) w4 a p g { x with cm := x.cm ++ (l.take 0).drop (x.cm.length - B) } v lp m lc l from by
   rw [List.take_zero, List.drop_nil, List.append_nil]
   exact ⟨HD.out.mv (L := fun _ => False) (Mv.of_below HB4.out 9) fun l e => e.elim, HU.out.rd.mono fun b _ hb => ext_ge (Nat.le_trans HB2.out.size hb), hmv, fun k _ => World.cell?_of_block (a := ⟨a, k, none⟩) (HB4.out.block a HD.out.lt)⟩)
  clear hmv HU HD HD2 HT2 HB2 HB4 Hco Hsl
  generalize ext own w.heap.size 9 = own5 at *
  go_wp2
  go_loopw [10] (fun ix wr => ∃ (k : Nat) (own' : Own) (v' : Wv), ix = .int .i64 (k : Int) ∧ k ≤ m ∧ Hid (ToC own w own' wr a p g { x with cm := x.cm ++ (l.take k).drop (x.cm.length - B) } v' lp m lc l)) (fun ix _ => m - (intOf ix).toNat)
  case atStart => exact ⟨0, own5, v, rfl, Nat.zero_le _, HS5⟩
  case round =>
   obtain ⟨k, ownk, vk, rfl, hk, HS⟩ := hrel
   clear HS5
   by_cases hlt2 : k < m
   · have d6 : decide (k < m) = true := by simpa using hlt2
     have d6' : decide ((k : Int) < (m : Int)) = true := by simpa using hlt2
     have hk0 : (0 : Int) ≤ (k : Int) := by omega
     have hki : (k : Int) < (m : Int) := by omega
     have hkl : k < l.length := by rw [Hll.out]; exact hlt2
     obtain ⟨lb, lo, lc', sd, hlv, hl9, hllt, hlt, hld, hsd, htl⟩ := HS.out.ls.elemF k hkl
     have hlp : lp = some ⟨lb, lo, none⟩ := by injection hlv
     obtain ⟨sp, sc, rfl, hsdp⟩ := hsd.rd
     have hlk : l[k] = ((x.r i).es[k]'(by omega)) := by
      have h1 := Hl0.out
      subst h1
      exact List.getElem_take ..
     have htk := tell_step x.cm l hbm hkl
     have hdl : l[k].2.length ≤ 3000 := by rw [hlk]; exact (Hb.out.es _ (List.getElem_mem _)).2
     obtain ⟨at_, hat⟩ : ∃ n, n = B + k := ⟨_, rfl⟩
     have hab : (B : Int) + (k : Int) = (at_ : Int) := by omega
     have hcl : vk.cn = (x.cm ++ (l.take k).drop (x.cm.length - B)).length := by obtain ⟨_, _, e⟩ := HS.out.wd.c.form; injection e
     have hcl2 : vk.cn = x.cm.length + (k - (x.cm.length - B)) := by rw [hcl, List.length_append, List.length_drop, List.length_take]; omega
     have ha7 : wr.cell? ⟨a, 7, none⟩ = some (.slice vk.cp vk.cn vk.cc) := HS.out.wd.cell 7
     subst hlp
     by_cases hcase : B + k < x.cm.length
     · have d7 : decide (at_ < vk.cn) = true := by simp; omega
       have d7' : decide ((at_ : Int) < (vk.cn : Int)) = true := by simp; omega
       have heqk := Hl.out.eq k (by rw [← HBC.out.1, ← HBC.out.2.2, ← Hm.out]; exact hlt2) (by rw [← HBC.out.1]; exact hcase)
       rw [if_pos hcase] at htk
       obtain ⟨eb, eo, ec, ed, hcv, heb, helt, het, hed, hdd, ht5⟩ := HS.out.wd.c.rd.elemF at_ (by rw [← hcl]; omega)
       have hgl : (x.cm ++ (l.take k).drop (x.cm.length - B))[at_]'(by rw [← hcl]; omega) = l[k] := by
        rw [List.getElem_append_left (by omega), hlk]
        rw [← HBC.out.1, List.getElem?_eq_getElem hcase, List.getElem?_eq_getElem (by omega)] at heqk
        injection heqk with heqk
        rw [← heqk]
        congr 1
       rw [hgl] at het hdd
       have e7 : vk.cp = some ⟨eb, eo, none⟩ := by injection hcv
       rw [e7] at ha7
       obtain ⟨qp, qc, rfl, hqdp⟩ := hdd.rd
       generalize l[k].1 = tk at *
       generalize l[k].2 = dk at *
       have hat0 : (0 : Int) ≤ (at_ : Int) := by omega
       have hati : (at_ : Int) < (vk.cn : Int) := by omega
       have Hqd := zh (fun (W : World) (hR : RegT.Same wr.drew W) => (show RdB W (.slice qp dk.length qc) dk from hdd.rd.keeps (fun b hb => by rw [hR.heap]; rfl)))
       have Hsd := zh (fun (W : World) (hR : RegT.Same wr.drew W) => (show RdB W (.slice sp dk.length sc) dk from hsd.rd.keeps (fun b hb => by rw [hR.heap]; rfl)))
       have Htk := zh htk
       have Hat := zh hat
       clear ht5
       clear hsd hdd hsdp hqdp hgl heqk hcv e7 hlk hcl hcl2 hlv htk hat
       go_upto_region 14 with (fail)
       apply RegT.wp_region_T rfl 137 32 rfl (by kernel_rfl) RegT.Same RegT.Same.refl RegT.Same.trans
       ·
        iterate 3
         apply RegT.T_pure rfl rfl rfl
         · intro W hR; clear hR; go_simp; rfl
         simp only [List.set_cons_succ, List.set_cons_zero, Nat.reduceAdd]
        apply RegT.T_pure (v := .slice (some ⟨eb, eo, none⟩) vk.cn vk.cc) rfl rfl rfl
        · intro W hR
          have hc := hR.cell ha7
          clear hR
          go_simp
        simp only [List.set_cons_succ, List.set_cons_zero, Nat.reduceAdd]
        iterate 3
         apply RegT.T_pure rfl rfl rfl
         · intro W hR; clear hR; go_simp; rfl
         simp only [List.set_cons_succ, List.set_cons_zero, Nat.reduceAdd]
        apply RegT.T_pure (v := .int .u64 (tk : Int)) rfl rfl rfl
        · intro W hR
          have hc := hR.cell het
          clear hR
          go_simp
        simp only [List.set_cons_succ, List.set_cons_zero, Nat.reduceAdd]
        iterate 4
         apply RegT.T_pure rfl rfl rfl
         · intro W hR; clear hR; go_simp; rfl
         simp only [List.set_cons_succ, List.set_cons_zero, Nat.reduceAdd]
        apply RegT.T_pure (v := .int .u64 (tk : Int)) rfl rfl rfl
        · intro W hR
          have hc := hR.cell hlt
          clear hR
          go_simp
        iterate 2
         simp only [List.set_cons_succ, List.set_cons_zero, Nat.reduceAdd]
         apply RegT.T_pure (v := .bool false) rfl rfl rfl
         · intro W hR; clear hR; go_simp
        simp only [List.set_cons_succ, List.set_cons_zero, Nat.reduceAdd]
        iterate 3
         apply RegT.T_pure rfl rfl rfl
         · intro W hR; clear hR; go_simp; rfl
         simp only [List.set_cons_succ, List.set_cons_zero, Nat.reduceAdd]
        apply RegT.T_pure (v := .slice (some ⟨eb, eo, none⟩) vk.cn vk.cc) rfl rfl rfl
        · intro W hR
          have hc := hR.cell ha7
          clear hR
          go_simp
        simp only [List.set_cons_succ, List.set_cons_zero, Nat.reduceAdd]
        iterate 3
         apply RegT.T_pure rfl rfl rfl
         · intro W hR; clear hR; go_simp; rfl
         simp only [List.set_cons_succ, List.set_cons_zero, Nat.reduceAdd]
        apply RegT.T_pure (v := .slice qp dk.length qc) rfl rfl rfl
        · intro W hR
          have hc := hR.cell hed
          clear hR
          go_simp
        simp only [List.set_cons_succ, List.set_cons_zero, Nat.reduceAdd]
        apply RegT.T_pure (v := .string ⟨dk.toArray⟩) rfl rfl rfl
        · intro W hR
          have hc := run_convert_str (P := Try.prog) (Hqd.out W hR) 29 5 9 Try.underlying29 Try.underlying5 Try.underlying9
          clear hR
          go_simp
        simp only [List.set_cons_succ, List.set_cons_zero, Nat.reduceAdd]
        iterate 4
         apply RegT.T_pure rfl rfl rfl
         · intro W hR; clear hR; go_simp; rfl
         simp only [List.set_cons_succ, List.set_cons_zero, Nat.reduceAdd]
        apply RegT.T_pure (v := .slice sp dk.length sc) rfl rfl rfl
        · intro W hR
          have hc := hR.cell hld
          clear hR
          go_simp
        simp only [List.set_cons_succ, List.set_cons_zero, Nat.reduceAdd]
        apply RegT.T_pure (v := .string ⟨dk.toArray⟩) rfl rfl rfl
        · intro W hR
          have hc := run_convert_str (P := Try.prog) (Hsd.out W hR) 29 5 9 Try.underlying29 Try.underlying5 Try.underlying9
          clear hR
          go_simp
        iterate 2
         simp only [List.set_cons_succ, List.set_cons_zero, Nat.reduceAdd]
         apply RegT.T_pure (v := .bool false) rfl rfl rfl
         · intro W hR; clear hR; go_simp
        simp only [List.set_cons_succ, List.set_cons_zero, Nat.reduceAdd]
        refine RegT.T_end rfl (fun wa hS hf0 => ?_)
        have HSa := zh (HS.out.same (RegT.Same.trans _ _ _ (same_drew wr) hS))
        clear hS hf0 HS ha7 het hed hlt hld Hqd Hsd
        go_wp2
        go_roundw
        case rel => exact ⟨k + 1, _, _, by go_num, by omega, by rw [Htk.out]; exact HSa⟩
        case measure => simp [intOf]; omega
       · rfl
       · kernel_rfl
     · have d7 : decide (at_ < vk.cn) = false := by simp; omega
       have d7' : decide ((at_ : Int) < (vk.cn : Int)) = false := by simp; omega
       rw [if_neg hcase, show l[k] = (l[k].1, l[k].2) from rfl] at htk
       have hcml : (x.cm ++ (l.take k).drop (x.cm.length - B)).length ≤ 1000000 := by rw [← hcl]; omega
       have HL1 := zh hcml
       have Htl := zh htl
       generalize l[k].1 = tk at *
       generalize l[k].2 = dk at *
       have hlb9 : ownk lb = 9 := hl9
       have Hsame := zh (fun (W : World) (hR : RC ownk wr vk (x.cm ++ (l.take k).drop (x.cm.length - B)) wr.drew W) b (hb : b < wr.heap.size) (hn : ownk b ≠ 14) => RC.same HS.out.wd.c hR hb hn)
       have Ha7 := zh (fun (W : World) (hR : RC ownk wr vk (x.cm ++ (l.take k).drop (x.cm.length - B)) wr.drew W) => (World.cell?_of_block (a := ⟨a, 7, none⟩) (Hsame.out W hR a HS.out.wd.lt (by rw [HS.out.wd.oa]; decide))).trans ha7)
       have Hlt := zh (fun (W : World) (hR : RC ownk wr vk (x.cm ++ (l.take k).drop (x.cm.length - B)) wr.drew W) => (World.cell?_of_block (a := ⟨lb, lo + k * 2, none⟩) (Hsame.out W hR lb hllt (by rw [hlb9]; decide))).trans hlt)
       have Hld := zh (fun (W : World) (hR : RC ownk wr vk (x.cm ++ (l.take k).drop (x.cm.length - B)) wr.drew W) => (World.cell?_of_block (a := ⟨lb, lo + k * 2 + 1, none⟩) (Hsame.out W hR lb hllt (by rw [hlb9]; decide))).trans hld)
       have Hsd := zh (fun (W : World) (hR : RC ownk wr vk (x.cm ++ (l.take k).drop (x.cm.length - B)) wr.drew W) => (show RdB W (.slice sp dk.length sc) dk from ((footed_dat _ _).move (S' := fun _ => True) hsd fun b hb e => ⟨trivial, Hsame.out W hR b hb (by rw [e]; decide)⟩).rd))
       have Htk := zh htk
       have Hat := zh hat
       clear hsd hsdp hlk hcl hcl2 hlv htk hat hcml htl hlt hld
       go_upto_region 16 with (fail)
       apply RegT.wp_region_T rfl 137 22 rfl (by kernel_rfl) (RC ownk wr vk (x.cm ++ (l.take k).drop (x.cm.length - B))) (RegR.refl _ _ _ _) (RegR.trans _ _ _ _)
       ·
        iterate 4
         apply RegT.T_pure rfl rfl rfl
         · intro W hR; clear hR; go_simp; rfl
         simp only [List.set_cons_succ, List.set_cons_zero, Nat.reduceAdd]
        apply RegT.T_pure (v := .slice vk.cp vk.cn vk.cc) rfl rfl rfl
        · intro W hR
          have hc := Ha7.out W hR
          clear hR
          go_simp
        simp only [List.set_cons_succ, List.set_cons_zero, Nat.reduceAdd]
        iterate 4
         apply RegT.T_pure rfl rfl rfl
         · intro W hR; clear hR; go_simp; rfl
         simp only [List.set_cons_succ, List.set_cons_zero, Nat.reduceAdd]
        apply RegT.T_pure (v := .int .u64 (tk : Int)) rfl rfl rfl
        · intro W hR
          have hc := Hlt.out W hR
          clear hR
          go_simp
        simp only [List.set_cons_succ, List.set_cons_zero, Nat.reduceAdd]
        apply RegT.T_predC rfl rfl rfl 16 (Fresh wr.heap.size) (RegR.grow _ _ _ _) (fun y x z hR h => h.keeps hR.block)
        · intro W hR hf
          have hsz : wr.heap.size ≤ W.heap.size := hR.1.size
          clear hR hf
          go_simp
          exact RegT.OpOK_value ⟨⟨_, rfl, (OB.new W 5).lower hsz⟩, (Below.refl _ _).alloc (Nat.le_refl _) _⟩
        intro v125
        simp only [List.set_cons_succ, List.set_cons_zero, Nat.reduceAdd]
        iterate 4
         apply RegT.T_pure rfl rfl rfl
         · intro W hR; clear hR; go_simp; rfl
         simp only [List.set_cons_succ, List.set_cons_zero, Nat.reduceAdd]
        apply RegT.T_pure (v := .slice sp dk.length sc) rfl rfl rfl
        · intro W hR
          have hc := Hld.out W hR
          clear hR
          go_simp
        simp only [List.set_cons_succ, List.set_cons_zero, Nat.reduceAdd]
        apply RegT.T_predC rfl rfl rfl 17 (DatOf dk wr.heap.size) (RegR.grow _ _ _ _) (fun y x z hR h => h.keeps hR.block)
        · intro W hR hf
          have h6 : Fresh wr.heap.size v125 W := hf _ (.head _) (by kernel_rfl) (.inr rfl)
          obtain ⟨v', w', hr, hd, hg⟩ := fresh_append (ty := 29) h6 (Hsd.out W hR) (by omega) hR.1.size
          exact append_ok (.tmp 125) (.tmp 130) rfl rfl rfl hr ⟨hd, hg⟩
        intro v131
        simp only [List.set_cons_succ, List.set_cons_zero, Nat.reduceAdd]
        apply RegT.T_predC rfl rfl rfl 18 (CopyOf tk dk wr.heap.size) (RegR.grow _ _ _ _) (fun y x z hR h => h.keeps hR.block)
        · intro W hR hf
          obtain ⟨p, c, rfl, hd⟩ : DatOf dk wr.heap.size v131 W := hf _ (.head _) (by kernel_rfl) (.inr rfl)
          clear hR hf
          go_simp
          exact RegT.OpOK_value ⟨⟨p, c, rfl, hd⟩, Below.refl _ _⟩
        intro v132
        simp only [List.set_cons_succ, List.set_cons_zero, Nat.reduceAdd]
        apply RegT.T_predC rfl rfl rfl 19 (RowOf tk dk wr.heap.size) (RegR.grow _ _ _ _) (fun y x z hR h => h.keeps hR.block)
        · intro W hR hf
          obtain ⟨p, c, rfl, hd⟩ : CopyOf tk dk wr.heap.size v132 W := hf _ (.head _) (by kernel_rfl) (.inr rfl)
          clear hR hf
          go_simp
          exact RegT.OpOK_value ⟨⟨_, p, c, rfl, EntAt.new _ _ _, hd.keeps ((Keeps.refl W).alloc _)⟩, (Below.refl _ _).alloc (Nat.le_refl _) _⟩
        intro v133
        simp only [List.set_cons_succ, List.set_cons_zero, Nat.reduceAdd]
        apply RegT.T_write rfl rfl rfl none (fun y W => EsG W (fun b => ext ownk wr.heap.size 14 b = 14) 53 y ((x.cm ++ (l.take k).drop (x.cm.length - B)) ++ [(tk, dk)])) (fun y x z hR h => h.keeps hR.block)
        · intro W hR hf
          obtain ⟨N, p, c, rfl, he, hd⟩ : RowOf tk dk wr.heap.size v133 W := hf _ (.head _) (by kernel_rfl) (.inr rfl)
          obtain ⟨v', w', hr, ho', hRR⟩ := comm_append HS.out.wd.c HL1.out hR he hd Htl.out
          exact append_ok (.tmp 119) (.tmp 133) rfl rfl rfl hr ⟨ho', hRR⟩
        intro v134
        simp only [List.set_cons_succ, List.set_cons_zero, Nat.reduceAdd]
        iterate 2
         apply RegT.T_pure rfl rfl rfl
         · intro W hR; clear hR; go_simp; rfl
         simp only [List.set_cons_succ, List.set_cons_zero, Nat.reduceAdd]
        refine RegT.T_tail (fun W hR hf0 => ?_)
        have hy : EsG W (fun b => ext ownk wr.heap.size 14 b = 14) 53 v134 ((x.cm ++ (l.take k).drop (x.cm.length - B)) ++ [(tk, dk)]) := hf0 _ (.head _) (.inl rfl)
        obtain ⟨p8, c8, rfl⟩ := hy.form
        generalize hn8 : ((x.cm ++ (l.take k).drop (x.cm.length - B)) ++ [(tk, dk)]).length = n8 at *
        have hc7 := Ha7.out W hR
        have hf7 : W.frozen? ⟨a, 7, none⟩ = false := by have h1 := (Hsame.out W hR a HS.out.wd.lt (by rw [HS.out.wd.oa]; decide)).trans HS.out.wd.row; simp [World.frozen?, h1]
        have HNX := zh (HS.out.comm (RC.mv HS.out.wd.c hR) hy)
        clear hR hf0 hy hn8
        simp only [List.drop_succ_cons, List.drop_zero]
        go_wp2
        go_roundw
        case rel => exact ⟨k + 1, _, _, by go_num, by omega, by rw [Htk.out]; exact HNX⟩
        case measure => simp [intOf]; omega
       · rfl
       · kernel_rfl
   · have d6 : decide (k < m) = false := by simpa using hlt2
     have d6' : decide ((k : Int) < (m : Int)) = false := by simp; omega
     have hkm : k = m := by omega
     go_wp2
     go_ret
     have e9 : RS.tell x.cm (x.r i) = x.cm ++ (l.take k).drop (x.cm.length - B) := by
      unfold RS.tell
      rw [← HBC.out.1, ← HBC.out.2.2, ← Hm.out, ← Hl0.out, hkm, List.take_of_length_le (Nat.le_of_eq Hll.out)]
     rw [e9]
     exact ⟨rfl, _, _, HS.out.wd, HS.out.m, HS.out.k⟩
end
end Go.Proofs.Yteellfgiejnigaa
namespace Go.Proofs.Yteellfgiejnigaa
open Go.ChangeShapes Go.WideShapes Go.ChangeAt Go.RowKit Go.Maps
set_option linter.unusedVariables false
theorem law22 : Keyed Try.prog 22 := int_keyed Try.underlying22
theorem zero3 (w : World) : (zeroValue 3).run Try.prog w = .ok (.int .i64 0) w := by kernel_rfl
section
variable {own own' own0 : Own} {w w' w0 : World} {a i N : Nat} {p g : Nat → Nat} {x : RS.W} {v : Wv} {L : Nat → Prop}
set_option maxRecDepth 100000 in
set_option maxHeartbeats 1000000 in
theorem newest_w (own : Own) (a : Nat) (p g : Nat → Nat) (x : RS.W) (v : Wv) (w : World) (h : WdAt own w a p g x v) (t T0 : Nat) (hT : x.leaders T0 ≠ none) (ht : t < T0) (h64 : T0 < 2 ^ 64) :
 Calls Try.prog 103 #[.pointer (some ⟨a, 0, none⟩), .int .u64 (t : Int)] w fun e w' => e = .returned (.bool false) ∧ Below w.heap.size w w' := by
 have ha6 : w.cell? ⟨a, 6, none⟩ = some (.map (some v.lp)) := h.cell 6
 obtain ⟨D, hown, hn, hD⟩ := h.l
 generalize Maps.size D = n at *
 have hlplt := h.l.lt
 have hD0 : Maps.has D (.int .u64 (T0 : Int)) = true := by
  rw [(hD T0 h64).1]
  cases e : x.leaders T0 with
  | none => exact absurd e hT
  | some _ => rfl
 clear h hD hT
 generalize v.lp = lp at *
 go_enter Try.func103, Try.ntmps103
 go_wp2_with (first
  | (at_range; refine wpList_range_own _ rfl _ 143 rfl 22 3 law22 Try.underlying143 _ lp n _ rfl hown ?_; intro w0 hrg0 hg0 hs0))
 go_frame
 go_loopw [5] (fun _ wr => ∃ (left : Lit → Bool) (cnt : Nat), wr.ranges (H := Unit) Try.prog 22 (plainElem Try.prog 3) lp w.heap.size n D left cnt ∧ left (.int .u64 (T0 : Int)) = true ∧ Hid (Below w.heap.size w wr))
  (fun _ wr => wr.rangeLeft lp w.heap.size)
 case atStart => exact ⟨_, _, hrg0, hD0, zh ⟨hg0.os, hg0.tape, hg0.output, hg0.size, fun b hb => hg0.block b hb (by simp)⟩⟩
 case round =>
  obtain ⟨left, cnt, hrg, hlt, HB⟩ := hrel
  go_wp2_with (first
   | (at_next; refine wpList_next_ranges_ii _ rfl _ rfl 22 3 .u64 .i64 law22 Try.underlying22 Try.underlying3 lp w.heap.size n _ _ _ rfl hrg ?_ ?_))
  · intro _ hl0
    exact absurd ((hl0 _).symm.trans hlt) (by decide)
  · intro y c w1 cnt1 hwx hwc hlx hat hrg1 hlt1 hg1 hs1 hen
    have HB1 := zh (HB.out.grown hg1 HB.out.size (fun b hb => by cases hb; exact Nat.le_refl _))
    by_cases hy : (t : Int) < y
    · have d1 : decide ((t : Int) < y) = true := by simpa using hy
      go_wp2
      go_ret
      exact ⟨rfl, HB1.out⟩
    · have d1 : decide ((t : Int) < y) = false := by simpa using hy
      go_wp2
      go_roundw
      case rel => exact ⟨_, cnt1, hrg1, by rw [hlt, sameKey_ne (a := .int .u64 (T0 : Int)) (b := .int .u64 y) (fun e => by injection e with _ e; omega)]; rfl, HB1⟩
      case measure => rw [hrg1.left_eq, hrg.left_eq]; exact hlt1
end
end Go.Proofs.Yteellfgiejnigaa
