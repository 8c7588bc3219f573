/- A proposal: the walk. -/
import Derived.Test.YteellfgiejnigaaQnG18
namespace Go.Proofs.Yteellfgiejnigaa
open Go.ChangeShapes Go.WideShapes Go.ChangeAt Go.RowKit
set_option linter.unusedVariables false
section
variable {own own' : Own} {w w' : World} {i p q g t0 N : Nat} {who0 : Int} {r : RS.Rf} {x : Ov} {o : RS.Ou} {M : Nat}
/-- What a proposal tells. -/
def ToldP (own : Own) (w : World) (L : Nat → Prop) (i p : Nat) (r : RS.Rf) (o : RS.Ou) (k err : Int) (e : Ending) (w' : World) : Prop :=
  ∃ x own' g, e = .returned (.tuple #[.int .u64 k, .agg (Ov.cells x), .int .i64 err]) ∧ NdAt own' w' i p g r ∧ OvAt w' (fun b => own' b = 7) x o ∧ Mv L own w own' w'
theorem Told.prop {L : Nat → Prop} {W : World} {X : Array Value} (h : Told own w L i p r o (.returned (.agg X)) W) (k err : Int) : ToldP own w L i p r o k err (.returned (.tuple #[.int .u64 k, .agg X, .int .i64 err])) W := by
  obtain ⟨x, own', g, e, h1, h2, h3⟩ := h
  cases e
  exact ⟨x, own', g, rfl, h1, h2, h3⟩
theorem rdb_move {w w' : World} {v : Value} {l : List UInt8} {S : Foot} (h : RdB w v l) (t : Touch S w w') (hS : ∀ b, ¬ S b) : RdB w' v l := h.keeps fun b hb => t.block b hb (hS b)
set_option maxRecDepth 100000 in
set_option maxHeartbeats 2000000 in
theorem prop_yes_w (own : Own) (i p g : Nat) (r : RS.Rf) (w : World) (h : NdAt own w i p g r) (M : Nat) (hb : Nb M r) (hM : M ≤ 90000) (hr : r.role = 3) (d : List UInt8) (P : Option Addr) (n c : Nat) (hd : RdB w (.slice P n c) d) (hdl : d.length ≤ 3000) :
    Calls Try.prog 56 #[.pointer (some ⟨p, 0, none⟩), .slice P n c] w (ToldP own w (fun l => l = i ∨ l = 7) i p (r.propose d).1 (r.propose d).2 ((r.last + 1 : Nat) : Int) 0) := by
  have hi7 := h.hi
  have e1 : ((r.role : Int) != 3) = false := by simp; omega
  have e2 : (r.role != 3) = false := by simp; omega
  have hn : n = d.length := by obtain ⟨_, _, e, _⟩ := hd; injection e
  have e3 : decide ((3000 : Int) < (n : Int)) = false := by simp; omega
  have e4 : decide (3000 < n) = false := by simp; omega
  have Hpr := Lib.hid (show r.propose d = ((r.add d).see, ((r.add d).see).updates (r.addO RS.Ou.none d)) from by unfold RS.Rf.propose; rw [if_neg (by omega)])
  have Hb := Lib.hid hb
  have hB1 : Below w.heap.size w (w.alloc (.cells #[.bool false, .bool false, .int .u8 0, .int .u64 0, .int .u64 0, .int .u64 0, .int .u64 0, .int .u64 0, .bool false, .slice none 0 0, .slice none 0 0, .bool false, .int .u64 0, .slice none 0 0, .slice none 0 0, .slice none 0 0] 100)) := (Below.refl _ _).alloc (Nat.le_refl _) _
  have hd1 := hd.below hB1
  obtain ⟨w1, hw1⟩ : ∃ w1, w.alloc (.cells #[.bool false, .bool false, .int .u8 0, .int .u64 0, .int .u64 0, .int .u64 0, .int .u64 0, .int .u64 0, .bool false, .slice none 0 0, .slice none 0 0, .bool false, .int .u64 0, .slice none 0 0, .slice none 0 0, .slice none 0 0] 100) = w1 := ⟨_, rfl⟩
  have H1 := Lib.hid (h.mv (L := fun _ => False) (Mv.alloc own w (.cells #[.bool false, .bool false, .int .u8 0, .int .u64 0, .int .u64 0, .int .u64 0, .int .u64 0, .int .u64 0, .bool false, .slice none 0 0, .slice none 0 0, .bool false, .int .u64 0, .slice none 0 0, .slice none 0 0, .slice none 0 0] 100) 9) id)
  have HX1 := Lib.hid (Bx.new own w #[.bool false, .bool false, .int .u8 0, .int .u64 0, .int .u64 0, .int .u64 0, .int .u64 0, .int .u64 0, .bool false, .slice none 0 0, .slice none 0 0, .bool false, .int .u64 0, .slice none 0 0, .slice none 0 0, .slice none 0 0] 100)
  have HM1 := Lib.hid ((Mv.refl (fun l => l = i ∨ l = 7) own w).alloc7 (.cells #[.bool false, .bool false, .int .u8 0, .int .u64 0, .int .u64 0, .int .u64 0, .int .u64 0, .int .u64 0, .bool false, .slice none 0 0, .slice none 0 0, .bool false, .int .u64 0, .slice none 0 0, .slice none 0 0, .slice none 0 0] 100))
  rw [hw1] at H1 HX1 HM1 hd1
  have HW := Lib.hid hw1
  have HD1 := Lib.hid hd1
  clear h hw1 hr hd hb hB1 hd1
  have Hn := Lib.hid hn
  have Hdl := Lib.hid hdl
  clear hn hdl
  generalize ext own w.heap.size 9 = own1 at *
  generalize hq : w1.heap.size = q at *
  have Hbeg := Lib.hid (begin_w own1 i p g r w1 H1.out)
  rw [hq] at Hbeg
  clear hq
  have HN := Lib.hid (none_w own1 i p g r w1 H1.out)
  have hrl := H1.out.crole
  go_enter Try.func56, Try.ntmps56
  go_upto_region 1 with (fail)
  rw [HW.out]
  go_upto_region 8 with (first
    | (go_at_call 106; refine (HN.out).mono ?_; rintro e w2 ⟨rfl, rfl⟩)
    | (go_at_call 107; refine (Hbeg.out).mono ?_; rintro e w2 ⟨rfl, own2, h2, hm2⟩; have H2 := Lib.hid h2; have HX2 := Lib.hid (HX1.out.mv hm2 id); have HM2 := Lib.hid (HM1.out.trans (hm2.mono fun l e => e.elim)); have HD2 := Lib.hid (rdb_move HD1.out hm2.t (fun _ e => e)); clear h2 hm2))
  clear H1 HX1 HM1 HW HN Hbeg hrl HD1
  have Hadd := Lib.hid (stadd_w own2 i p q g r.term r.who r Ov.zero RS.Ou.none w2 H2.out M Hb.out rfl rfl rfl rfl d P n c HD2.out Hdl.out)
  go_upto_region 9 with (go_at_call 108; refine (Hadd.out).mono ?_; rintro e w3 ⟨rfl, own3, x3, h3, hx3, hm3⟩; have H3 := Lib.hid h3; have HX3 := Lib.hid (HX2.out.mv hm3 (by omega)); have HM3 := Lib.hid (HM2.out.trans hm3); clear h3 hx3 hm3)
  have Hnb := Lib.hid (Hb.out.add (by omega) Hdl.out)
  have Hsee := Lib.hid (see_w own3 i p q g r.term r.who (r.add d) x3 (r.addO RS.Ou.none d) w3 H3.out (M + 1) Hnb.out)
  go_upto_region 10 with (go_at_call 109; refine (Hsee.out).mono ?_; rintro e w4 ⟨⟨v, rfl⟩, own4, x4, h4, hA4, hm4⟩; have H4 := Lib.hid h4; have HX4 := Lib.hid (HX3.out.mv hm4 (by omega)); have HM4 := Lib.hid (HM3.out.trans (hm4.mono fun l e => .inl e)); clear h4 hA4 hm4)
  have Hnb2 := Lib.hid ((Hnb.out.mono (M' := 3 * M + 3) (by omega) (by omega)).see (by show r.base + (r.es ++ [(r.term, d)]).length ≤ _; have := Hb.out.base; have := Hb.out.len; simp; omega))
  have Hup := Lib.hid (updates_w own4 i p q g r.term r.who (r.add d).see x4 (r.addO RS.Ou.none d) w4 H4.out (3 * M + 3) Hnb2.out (by show (0 : Nat) ≤ 900; decide) (by show (0 : Nat) ≤ 900; decide))
  go_upto_region 11 with (go_at_call 110; refine (Hup.out).mono ?_; rintro e w5 ⟨⟨v, rfl⟩, own5, x5, h5, hA5, hm5⟩; have H5 := Lib.hid h5; have HX5 := Lib.hid (HX4.out.mv hm5 (by decide)); have HM5 := Lib.hid (HM4.out.trans (hm5.mono fun l e => .inr e)); clear h5 hA5 hm5)
  clear H2 HX2 HM2 H3 HX3 HM3 H4 HX4 HM4 Hadd Hsee Hup HD2 Hnb Hnb2
  have HDn := Lib.hid (nddone_w _ i p q g r.term r.who _ _ _ _ H5.out)
  generalize hl1 : ((r.last + 1 : Nat) : Int) = last1 at *
  go_wp2_with (first
    | (refine wpList_store_rowTo rfl 100 (.tmp 5) (.tmp 36) rfl rfl _ (Ov.cells x9) rfl rfl 100 _ HZ.out (show _ = some 16 by kernel_rfl) rfl (ov_one x9) ?_)
    | (go_at_call 111; refine (HDn.out).mono ?_; rintro e w9 ⟨x9, own9, g9, rfl, hn9, ho9, hm9⟩; have HN9 := Lib.hid hn9; have HO9 := Lib.hid ho9; have HM9 := Lib.hid (HM5.out.trans (hm9.mono fun l e => .inr e)); have HX9 := Lib.hid (HX5.out.mv hm9 (by decide)); have HZ := Lib.hid HX9.out.row; clear hn9 ho9 hm9))
  refine bodyPost_ret (results_mid_row rfl _ _ w.heap.size 100 _ _ _ rfl (setRow_heap _ _ _ _ _ _ HZ.out) rfl Try.underlying100 (show _ = some 16 by kernel_rfl)) rfl ?_
  rw [Hpr.out]
  exact (Told.fin HN9.out HO9.out HM9.out HX9.out (Nat.le_refl _)).prop _ 0
end
end Go.Proofs.Yteellfgiejnigaa
