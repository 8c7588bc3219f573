/- RaftSafe: G13. -/
import Derived.Test.YteellfgiejnigaaQtA00
import Derived.Test.YteellfgiejnigaaQtA18
namespace Go.Proofs.Yteellfgiejnigaa
open Go.ChangeShapes Go.WideShapes Go.ChangeAt Go.RowKit
set_option linter.unusedVariables false
def OBn (l : List UInt8) (B0 : Nat) (y : Value) (W : World) : Prop := ∃ p c, y = .slice p l.length c ∧ OB W B0 5 (.slice p l.length c) l
theorem OBn.keeps {l : List UInt8} {B0 : Nat} {y : Value} {W W' : World} (h : OBn l B0 y W) (hk : Keeps W W') : OBn l B0 y W' := by
 obtain ⟨p, c, e, hd⟩ := h; exact ⟨p, c, e, hd.keeps hk⟩
def CopyOB (t : Nat) (l : List UInt8) (B0 : Nat) (y : Value) (W : World) : Prop := ∃ p c, y = .agg #[.int .u64 (t : Int), .slice p l.length c] ∧ OB W B0 5 (.slice p l.length c) l
theorem CopyOB.keeps {t : Nat} {l : List UInt8} {B0 : Nat} {y : Value} {W W' : World} (h : CopyOB t l B0 y W) (hk : Keeps W W') : CopyOB t l B0 y W' := by
 obtain ⟨p, c, e, hd⟩ := h; exact ⟨p, c, e, hd.keeps hk⟩
theorem ob_row {w : World} {B0 N : Nat} {v : Value} {l : List UInt8} {cs ds : Array Value} {t : TypeId} (h : OB w B0 5 v l) (hN : w.heap[N]? = some (.cells cs t)) (ht : t ≠ 5) : OB (w.setRow N ds) B0 5 v l := by
 refine ⟨h.1, ?_⟩
 rcases h.2 with h2 | ⟨g, cap, cur, hv, hg, hh, r⟩
 · exact .inl h2
 · refine .inr ⟨g, cap, cur, hv, hg, (setRow_other _ _ _ _ fun e => ?_).trans hh, r⟩
   subst e
   rw [hN] at hh
   cases hh
   exact ht rfl
theorem nil_append {w : World} {B0 : Nat} {ty : TypeId} {x : Value} {l : List UInt8} (hx : RdB w x l) (hl : l.length ≤ 140737488355328) (hB : B0 ≤ w.heap.size) :
 ∃ v' w', (Builtin.append_ #[29, 29] ty #[.slice none 0 0, x]).run Try.prog w = .ok v' w' ∧ OBn l B0 v' w' ∧ RegT.Grow w w' := by
 obtain ⟨v', w', hr, ho', hg⟩ := run_append_src (P := Try.prog) (ty := ty) hel (OB.nil w w.heap.size 5) hx.src (by unfold maxLen; simp; omega) (by simp; omega) (Nat.le_refl _)
 have hob : OB w' w.heap.size 5 v' l := by
  unfold OB
  simpa using ho'
 obtain ⟨p, c, rfl⟩ := hob.form
 exact ⟨_, w', hr, ⟨p, c, rfl, hob.lower hB⟩, below_grown hg _ (Nat.le_refl _) (fun k e => by cases e)⟩
theorem ent_ones (t : Nat) (p : Option Addr) (n c : Nat) : ∀ u ∈ [Value.int .u64 (t : Int), .slice p n c], u.oneCell' = true := by
 intro u hu
 simp only [List.mem_cons, List.not_mem_nil, or_false] at hu
 rcases hu with rfl | rfl <;> rfl
theorem own_form {w : World} {base size n : Nat} {e : TypeId} {v : Value} {xs : List Value} (h : w.ownsRow base e size v n xs) : ∃ p c, v = .slice p n c := by
 rcases h.2 with ⟨rfl, rfl⟩ | ⟨g, cap, cur, rfl, _⟩
 · exact ⟨none, 0, rfl⟩
 · exact ⟨_, _, rfl⟩
theorem NdAt.touched {own : Own} {w w' : World} {i p g : Nat} {r r' : RS.Rf} (h : NdAt own w i p g r) (ht : Touch (Ft own i p) w w') (hr : rfc r' g = rfc r g) (hk : ∃ v, TkAt w' (fun b => Ft own i p b ∨ w.heap.size ≤ b) g r'.base r'.bt v r'.es) :
 NdAt (ext own w.heap.size i) w' i p g r' ∧ Mv (fun l => l = i) own w (ext own w.heap.size i) w' := by
 have hm : Mv (fun l => l = i) own w (ext own w.heap.size i) w' := Mv.of_touch ht (fun b _ e => e.1) i
 obtain ⟨v, hk⟩ := hk
 refine ⟨⟨h.hi, ?_, (ext_lt h.lt).trans h.op, v, ?_⟩, hm⟩
 · rw [hr]; exact (ht.block p h.lt fun e => e.2 rfl).trans h.rp
 · refine hk.mono fun b hb e => ?_
   by_cases hlt : b < w.heap.size
   · rcases e with e | e
     · exact ⟨(ext_lt hlt).trans e.1, e.2⟩
     · omega
   · exact ⟨ext_ge (by omega), fun e2 => by have := h.lt; omega⟩
theorem esr_one {W : World} {S : Foot} {N t : Nat} {p : Option Addr} {c : Nat} {d : List UInt8} (h : EntAt W N t (.slice p d.length c)) (hS : S N) (hd : DatA W S (.slice p d.length c) d) (ht : t < 2 ^ 64) : EsR W S (.slice (some ⟨N, 0, none⟩) 1 1) [(t, d)] :=
 ⟨_, 1, [.int .u64 (t : Int), .slice p d.length c], rfl, Nat.le_refl _, by decide, fun h => (by cases h), EsC.cons ht hd .nil, fun _ => ⟨N, 0, rfl, hS, h.lt, fun j u hu => by have := ent_cells h j u hu; rwa [Addr.add_mid] at this⟩⟩
def RowU (t : Nat) (d : List UInt8) (B0 : Nat) (p1 : Option Addr) (c1 : Nat) (y : Value) (W : World) : Prop := ∃ N, y = .slice (some ⟨N, 0, none⟩) 1 1 ∧ B0 ≤ N ∧ EntAt W N t (.slice p1 d.length c1)
theorem RowU.keeps {t : Nat} {d : List UInt8} {B0 : Nat} {p1 : Option Addr} {c1 : Nat} {y : Value} {W W' : World} (h : RowU t d B0 p1 c1 y W) (hk : Keeps W W') : RowU t d B0 p1 c1 y W' := by
 obtain ⟨N, e, h1, h2⟩ := h; exact ⟨N, e, h1, h2.keeps hk⟩
theorem setq_ad (p t0 : Nat) (who0 : Int) (x : Ov) (a : Option Addr) (n c : Nat) : (stc p x t0 who0).setIfInBounds 14 (.slice a n c) = stc p { x with ap := a, an := n, ac := c } t0 who0 := rfl
section
variable {own own' : Own} {w w' : World} {i p q g t0 N : Nat} {who0 : Int} {r : RS.Rf} {x : Ov} {o : RS.Ou} {M : Nat}
set_option maxRecDepth 100000 in
set_option maxHeartbeats 2000000 in
theorem stadd_w (own : Own) (i p q g t0 : Nat) (who0 : Int) (r : RS.Rf) (x : Ov) (o : RS.Ou) (w : World) (h : StAt own w i p q g t0 who0 r x o) (M : Nat) (hb : Nb M r) (hap : x.ap = none) (han : x.an = 0) (hac : x.ac = 0) (ho : o.add = []) (d : List UInt8) (dp : Option Addr) (dn dc : Nat) (hd : RdB w (.slice dp dn dc) d) (hdl : d.length ≤ 3000) :
 Calls Try.prog 108 #[.pointer (some ⟨q, 0, none⟩), .slice dp dn dc] w fun e w' => e = .returned (.int .u64 ((r.last + 1 : Nat) : Int)) ∧ ∃ own' x', StAt own' w' i p q g t0 who0 (r.add d) x' (r.addO o d) ∧ x'.an = 1 ∧ Mv (fun l => l = i ∨ l = 7) own w own' w' := by
 have H := zh h
 have hq0 := h.q0
 have hp3 := h.nd.cterm
 have Hdat := zh (fun (W : World) (hR : RegT.Grow w.drew W) => (show RdB W (.slice dp dn dc) d from hd.keeps ((Keeps.refl w).drew.trans hR.block)))
 have Hdl := zh (show d.length ≤ 140737488355328 by omega)
 have Hdl3 := zh hdl
 have Htl := zh (show r.term < 2 ^ 64 by have := hb.term; have := hb.hM; omega)
 have Hb := zh hb
 have Hx := zh (And.intro hap (And.intro han (And.intro hac ho)))
 clear h hb hd hap han hac ho hdl
 go_enter Try.func108, Try.ntmps108
 go_wp2
 apply RegT.wp_region_T rfl 52 11 rfl (by kernel_rfl) RegT.Grow RegT.Grow.refl RegT.Grow.trans
 ·
  iterate 8
   apply RegT.T_pure rfl rfl rfl
   · intro W hR; have h0 := Keeps.cell hR.block hq0; have h1 := Keeps.cell hR.block hp3; clear hR; go_simp; rfl
   simp only [List.set_cons_succ, List.set_cons_zero, Nat.reduceAdd]
  apply RegT.T_pred rfl rfl rfl (OBn d w.heap.size) (fun _ _ h => h) (fun y x z hR h => h.keeps hR.block)
  · intro W hR hf0
    obtain ⟨v', w', hr, hd, hg⟩ := nil_append (B0 := w.heap.size) (ty := 29) (Hdat.out W hR) Hdl.out hR.size
    exact append_ok (.const (.slice none 0 0)) (.tmp 15) rfl rfl rfl hr ⟨hd, hg⟩
  intro v16
  simp only [List.set_cons_succ, List.set_cons_zero, Nat.reduceAdd]
  apply RegT.T_pred rfl rfl rfl (CopyOB r.term d w.heap.size) (fun _ _ h => h) (fun y x z hR h => h.keeps hR.block)
  · intro W hR hf0
    obtain ⟨p1, c1, rfl, hd⟩ := (show OBn d w.heap.size v16 W from hf0 _ (.head _) (by kernel_rfl) (.inl rfl))
    have Hd := zh hd
    clear hR hf0 hd
    go_simp
    exact RegT.OpOK_value ⟨⟨_, _, rfl, Hd.out⟩, Below.refl _ _⟩
  intro v17
  simp only [List.set_cons_succ, List.set_cons_zero, Nat.reduceAdd]
  apply RegT.T_pred rfl rfl rfl (fun y W => ∃ N, y = .pointer (some ⟨N, 0, none⟩) ∧ w.heap.size ≤ N ∧ W.heap[N]? = some (.cells #[.int .u64 0, .slice none 0 0] 53)) (fun _ _ h => h) ?hmono
  case hmono => rintro y x z hR ⟨N, e, h1, h2⟩; exact ⟨N, e, h1, (hR.block N (Array.getElem?_eq_some_iff.1 h2).1).trans h2⟩
  · intro W hR hf0
    have hsz : w.heap.size ≤ W.heap.size := hR.size
    have Hz := zh hsz
    clear hR hf0 hsz
    go_simp
    exact RegT.OpOK_value ⟨⟨_, rfl, Hz.out, heap_alloc_new W _⟩, (Below.refl _ _).alloc (Nat.le_refl _) _⟩
  intro v5
  simp only [List.set_cons_succ, List.set_cons_zero, Nat.reduceAdd]
  refine RegT.T_tail (fun W hR hf0 => ?_)
  obtain ⟨N, rfl, hNw, hNr⟩ := hf0 _ (.head _) (.inl rfl)
  obtain ⟨p1, c1, rfl, hd1⟩ := (show CopyOB r.term d w.heap.size v17 W from hf0 _ (.tail _ (.head _)) (.inl rfl))
  have hB : Below w.heap.size w W := (Below.refl w.heap.size w).drew.trans hR
  have hm1 : Mv (fun l => l = i ∨ l = 7) own w (ext own w.heap.size 9) W := Mv.of_below hB 9
  have hbx : Bx (ext own w.heap.size 9) W N #[.int .u64 0, .slice none 0 0] 53 := ⟨hNr, ext_ge hNw⟩
  have HB1 := zh hbx
  have HR1 := zh hNr
  have HL3 := zh (fun b (h1 : w.heap.size ≤ b) (h2 : b < (W.setRow N #[.int .u64 (r.term : Int), .slice p1 d.length c1]).heap.size) (e : ext own w.heap.size 9 b = i) => (show False by have := H.out.nd.hi; rw [ext_ge h1] at e; omega))
  have H3 := zh ((H.out.below hB).row9 hbx #[.int .u64 (r.term : Int), .slice p1 d.length c1])
  have HX3 := zh (hbx.setRow #[.int .u64 (r.term : Int), .slice p1 d.length c1])
  have HE3 := zh (show EntAt (W.setRow N #[.int .u64 (r.term : Int), .slice p1 d.length c1]) N r.term (.slice p1 d.length c1) from (hbx.setRow _).row)
  have HM3 := zh (hm1.newRow hNw #[.int .u64 (r.term : Int), .slice p1 d.length c1])
  have HD3 := zh (show DatA (W.setRow N #[.int .u64 (r.term : Int), .slice p1 d.length c1]) (fun b => w.heap.size ≤ b) (.slice p1 d.length c1) d from DatA.of_ob (ob_row hd1 hNr (t := 53) (by decide)))
  clear hR hf0 hNw hNr hd1 hB hm1 hbx hq0 hp3
  simp only [List.drop_succ_cons, List.drop_zero]
  go_wp2_with (refine wpList_store_rowTo rfl 53 (.tmp 5) (.tmp 17) rfl rfl _ #[.int .u64 (r.term : Int), .slice p1 d.length c1] rfl rfl 53 _ HR1.out (show _ = some 2 by kernel_rfl) rfl (ent_one _ _ _ _) ?_)
  generalize W.setRow N #[.int .u64 (r.term : Int), .slice p1 d.length c1] = w3 at *
  generalize ext own w.heap.size 9 = own3 at *
  clear HB1 HR1
  have hq0 := H3.out.q0
  have hp5 := H3.out.nd.ctk
  apply RegT.wp_region_T rfl 52 9 rfl (by kernel_rfl) RegT.Grow RegT.Grow.refl RegT.Grow.trans
  ·
   iterate 7
    apply RegT.T_pure rfl rfl rfl
    · intro W hR; have h0 := Keeps.cell hR.block hq0; have h1 := Keeps.cell hR.block hp5; clear hR; go_simp; rfl
    simp only [List.set_cons_succ, List.set_cons_zero, Nat.reduceAdd]
   apply RegT.T_pure rfl rfl rfl
   · exact fun W hR => load_ent (.tmp 5) rfl rfl (HE3.out.keeps ((Keeps.refl w3).drew.trans hR.block))
   simp only [List.set_cons_succ, List.set_cons_zero, Nat.reduceAdd]
   apply RegT.T_pred rfl rfl rfl (RowU r.term d w3.heap.size p1 c1) (fun _ _ h => h) (fun y x z hR h => h.keeps hR.block)
   · intro W hR hf0
     have hk : Keeps w3 W := (Keeps.refl w3).drew.trans hR.block
     have hsz : w3.heap.size ≤ W.heap.size := hR.size
     have Hz := zh hsz
     clear hR hf0 hsz hk
     go_simp
     exact RegT.OpOK_value ⟨⟨_, rfl, Hz.out, EntAt.new _ _ _⟩, (Below.refl _ _).alloc (Nat.le_refl _) _⟩
   intro v26
   simp only [List.set_cons_succ, List.set_cons_zero, Nat.reduceAdd]
   refine RegT.T_tail (fun W2 hR hf0 => ?_)
   obtain ⟨N2, rfl, hN2, he2⟩ := (show RowU r.term d w3.heap.size p1 c1 v26 W2 from hf0 _ (.head _) (.inl rfl))
   have hB2 : Below w3.heap.size w3 W2 := (Below.refl w3.heap.size w3).drew.trans hR
   have hx2 := HX3.out.below hB2
   have hst := H3.out.below hB2
   have hd2 := HD3.out.keeps hB2.block
   obtain ⟨v, htk⟩ := hst.nd.tk
   have hpl := H3.out.nd.lt
   have hlab : ∀ b, w3.heap.size ≤ b → ext own3 w3.heap.size 9 b = 9 := fun b hb => ext_ge hb
   have hi7 := hst.nd.hi
   have hlt9 : ∀ b, w.heap.size ≤ b → b < w3.heap.size → own3 b ≠ i := fun b h1 h2 e => HL3.out b h1 h2 e
   have hesr := esr_one (S := fun b => w.heap.size ≤ b ∧ b < W2.heap.size) he2 ⟨by have := HM3.out.t.size; omega, he2.lt⟩ (hd2.mono fun b hb e => ⟨e, hb⟩) Htl.out
   have Hadd := zh (add_all_w _ _ g r.base r.bt v (.slice (some ⟨N2, 0, none⟩) 1 1) r.es [(r.term, d)] (r.es ++ [(r.term, d)]) W2 htk hesr (fun b hb h1 h2 => by
    by_cases hlt : b < w3.heap.size
    · exact hlt9 b h1.1 hlt ((ext_lt hlt).symm.trans h2.1)
    · have := h2.1; rw [hlab b (by omega)] at this; omega) (by have := Hb.out.len; have := Hb.out.hM; simp; omega) (fun e he => by rw [List.mem_singleton] at he; rw [he]; have := Hdl3.out; show d.length ≤ 1000000; omega) (by have := Hb.out.base; have := Hb.out.hM; omega) rfl)
   have HS2 := zh hst
   have HX2 := zh hx2
   have HM2 := zh (HM3.out.below hB2)
   clear hR hf0 hN2 hB2 hx2 hst hd2 htk hpl hlab hi7 hlt9 hesr he2 hq0 hp5
   generalize ext own3 w3.heap.size 9 = own2 at *
   simp only [List.drop_succ_cons, List.drop_zero]
   go_wp2_with (go_at_call 27; refine (Hadd.out).mono ?_; rintro e w4 ⟨⟨z, rfl⟩, v4, h4, t4⟩; have HT := zh (HS2.out.nd.touched (r' := r.add d) t4 rfl ⟨v4, h4⟩); clear h4 t4)
   have H4 := zh (HS2.out.of_nd HT.out.1 HT.out.2)
   have HX4 := zh (HX2.out.mv HT.out.2 (by have := HS2.out.nd.hi; omega))
   have HM4 := zh (HM2.out.trans (HT.out.2.mono fun l e => .inl e))
   clear HT HS2 HX2 HM2 Hadd
   generalize ext own2 W2.heap.size i = own4 at *
   have HE4 := zh (show EntAt w4 N r.term (.slice p1 d.length c1) from HX4.out.row)
   have hq14 : w4.cell? ⟨q, 14, none⟩ = some (.slice none 0 0) := by
    have h1 := H4.out.q14
    rw [Hx.out.1, Hx.out.2.1, Hx.out.2.2.1] at h1
    exact h1
   apply RegT.wp_region_T rfl 52 12 rfl (by kernel_rfl) RegT.Grow RegT.Grow.refl RegT.Grow.trans
   ·
    iterate 5
     apply RegT.T_pure rfl rfl rfl
     · intro W hR; clear hR; go_simp; rfl
     simp only [List.set_cons_succ, List.set_cons_zero, Nat.reduceAdd]
    apply RegT.T_pure (v := .slice none 0 0) rfl rfl rfl
    · intro W hR
      have hc := Keeps.cell hR.block hq14
      clear hR
      go_simp
    simp only [List.set_cons_succ, List.set_cons_zero, Nat.reduceAdd]
    apply RegT.T_pure rfl rfl rfl
    · exact fun W hR => load_ent (.tmp 5) rfl rfl (HE4.out.keeps ((Keeps.refl w4).drew.trans hR.block))
    simp only [List.set_cons_succ, List.set_cons_zero, Nat.reduceAdd]
    apply RegT.T_pred rfl rfl rfl (RowU r.term d w4.heap.size p1 c1) (fun _ _ h => h) (fun y x z hR h => h.keeps hR.block)
    · intro W hR hf0
      have hsz : w4.heap.size ≤ W.heap.size := hR.size
      have Hz := zh hsz
      clear hR hf0 hsz
      go_simp
      exact RegT.OpOK_value ⟨⟨_, rfl, Hz.out, EntAt.new _ _ _⟩, (Below.refl _ _).alloc (Nat.le_refl _) _⟩
    intro v35
    simp only [List.set_cons_succ, List.set_cons_zero, Nat.reduceAdd]
    apply RegT.T_pred rfl rfl rfl (fun y W => ∃ p c, y = .slice p 1 c) (fun _ _ h => h) (fun y x z hR h => h)
    · intro W hR hf0
      obtain ⟨N2, rfl, hN2, he2⟩ := (show RowU r.term d w4.heap.size p1 c1 v35 W from hf0 _ (.head _) (by kernel_rfl) (.inl rfl))
      obtain ⟨v', w', hr, ho', hg⟩ := run_append_src (P := Try.prog) (ty := 28) helE (World.ownsRow_nil W W.heap.size 53 2) (x := .slice (some ⟨N2, 0, none⟩) 1 1) (m := 1) (news := [.int .u64 (r.term : Int), .slice p1 d.length c1]) ⟨_, _, rfl, rfl, ent_ones _ _ _ _, .inr ⟨_, rfl, ent_cells he2⟩⟩ (by decide) (by decide) (Nat.le_refl _)
      obtain ⟨p9, c9, e9⟩ := own_form ho'
      exact append_ok (.tmp 33) (.tmp 35) rfl rfl rfl hr ⟨⟨p9, c9, e9⟩, below_grown hg _ (Nat.le_refl _) (fun k e => by cases e)⟩
    intro v36
    simp only [List.set_cons_succ, List.set_cons_zero, Nat.reduceAdd]
    iterate 3
     apply RegT.T_pure rfl rfl rfl
     · intro W hR; clear hR; go_simp; rfl
     simp only [List.set_cons_succ, List.set_cons_zero, Nat.reduceAdd]
    refine RegT.T_tail (fun W5 hR hf0 => ?_)
    obtain ⟨p9, c9, rfl⟩ := (show ∃ p c, v36 = .slice p 1 c from hf0 _ (.head _) (.inl rfl))
    have hB5 : Below w4.heap.size w4 W5 := (Below.refl w4.heap.size w4).drew.trans hR
    have h5 := H4.out.below hB5
    have hc5 := Keeps.cell hB5.block hq14
    have hf5 := h5.frozen 14
    have H6 := zh (h5.setq 14 (.slice p9 1 c9) { x with ap := p9, an := 1, ac := c9 } (r.addO o d) (setq_ad _ _ _ _ _ _ _) ⟨by unfold RS.Rf.addO; rw [Hx.out.2.2.2]; rfl, h5.ov.se, h5.ov.ne⟩)
    have HM6 := zh ((HM4.out.below hB5).trans (Mv.set (L := fun l => l = i ∨ l = 7) (a := ⟨q, 14, none⟩) (.inr h5.oq) (.slice p9 1 c9)))
    have Hlen := zh (show (r.add d).es.length ≤ 1000000 by show (r.es ++ [(r.term, d)]).length ≤ 1000000; have := Hb.out.len; have := Hb.out.hM; simp; omega)
    clear hR hf0 hB5 hq14
    generalize ext own4 w4.heap.size 9 = own6 at *
    simp only [List.drop_succ_cons, List.drop_zero]
    go_upto_region 4 with (fail)
    clear h5 hc5 hf5
    generalize W5.setCell ⟨q, 14, none⟩ (.slice p9 1 c9) = w6 at *
    have hq0 := H6.out.q0
    have hp5 := H6.out.nd.ctk
    obtain ⟨last1, hlast1⟩ : ∃ n, n = r.last + 1 := ⟨_, rfl⟩
    have Hl1 := zh hlast1
    clear hlast1
    have Htip := zh (H6.out.nd.tk.elim fun v htk => tip_eq_w _ g (r.add d).base (r.add d).bt last1 v (r.add d).es w6 htk Hlen.out (by rw [Hl1.out]; show r.base + (r.es ++ [(r.term, d)]).length = r.base + r.es.length + 1; simp; omega))
    go_wp2_with (go_at_call 23; refine (Htip.out).mono ?_; rintro e w7 ⟨rfl, hB⟩; have H7 := zh (H6.out.below hB); have HM7 := zh (HM6.out.below hB); clear hB)
    go_ret
    exact ⟨by rw [← Hl1.out]; rfl, _, _, H7.out, rfl, HM7.out⟩
   · rfl
   · kernel_rfl
  · rfl
  · kernel_rfl
 · rfl
 · kernel_rfl
end
end Go.Proofs.Yteellfgiejnigaa
