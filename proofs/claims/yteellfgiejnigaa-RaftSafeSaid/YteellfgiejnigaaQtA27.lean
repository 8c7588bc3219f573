/- RaftSafe: HC, H27, G28, G29, H30, G31. -/
import Derived.Test.YteellfgiejnigaaQtA00
import Derived.Test.YteellfgiejnigaaQtA26
namespace Go.Proofs.Yteellfgiejnigaa
theorem no_cases (a b c : Nat) (h : 1 ≤ a) : ∃ k : Nat, k = max (min (a - 1) (b + 1)) (c + 1) ∧ ((((b : Int) + 1 < (a : Int) - 1) ∧ ((b : Int) + 1 < (c : Int) + 1) ∧ decide ((b : Int) + 1 < (a : Int) - 1) = true ∧ decide ((b : Int) + 1 < (c : Int) + 1) = true ∧ (c : Int) + 1 = (k : Int)) ∨
      (((b : Int) + 1 < (a : Int) - 1) ∧ ¬ ((b : Int) + 1 < (c : Int) + 1) ∧ decide ((b : Int) + 1 < (a : Int) - 1) = true ∧ decide ((b : Int) + 1 < (c : Int) + 1) = false ∧ (b : Int) + 1 = (k : Int)) ∨
      (¬ ((b : Int) + 1 < (a : Int) - 1) ∧ ((a : Int) - 1 < (c : Int) + 1) ∧ decide ((b : Int) + 1 < (a : Int) - 1) = false ∧ decide ((a : Int) - 1 < (c : Int) + 1) = true ∧ (c : Int) + 1 = (k : Int)) ∨
      (¬ ((b : Int) + 1 < (a : Int) - 1) ∧ ¬ ((a : Int) - 1 < (c : Int) + 1) ∧ decide ((b : Int) + 1 < (a : Int) - 1) = false ∧ decide ((a : Int) - 1 < (c : Int) + 1) = false ∧ (a : Int) - 1 = (k : Int))) := by
 refine ⟨_, rfl, ?_⟩
 simp only [decide_eq_true_eq, decide_eq_false_iff_not]
 omega
theorem yes_cases (a b c : Nat) : ∃ m : Nat, m = max c (min b a) ∧ ((((a : Int) < (b : Int)) ∧ (a < b) ∧ ((c : Int) < (a : Int)) ∧ (c < a) ∧ decide ((a : Int) < (b : Int)) = true ∧ decide (a < b) = true ∧ decide ((c : Int) < (a : Int)) = true ∧ decide (c < a) = true ∧ m = a) ∨
      (((a : Int) < (b : Int)) ∧ (a < b) ∧ ¬ ((c : Int) < (a : Int)) ∧ ¬ (c < a) ∧ decide ((a : Int) < (b : Int)) = true ∧ decide (a < b) = true ∧ decide ((c : Int) < (a : Int)) = false ∧ decide (c < a) = false ∧ m = c) ∨
      (¬ ((a : Int) < (b : Int)) ∧ ¬ (a < b) ∧ ((c : Int) < (b : Int)) ∧ (c < b) ∧ decide ((a : Int) < (b : Int)) = false ∧ decide (a < b) = false ∧ decide ((c : Int) < (b : Int)) = true ∧ decide (c < b) = true ∧ m = b) ∨
      (¬ ((a : Int) < (b : Int)) ∧ ¬ (a < b) ∧ ¬ ((c : Int) < (b : Int)) ∧ ¬ (c < b) ∧ decide ((a : Int) < (b : Int)) = false ∧ decide (a < b) = false ∧ decide ((c : Int) < (b : Int)) = false ∧ decide (c < b) = false ∧ m = c)) := by
 refine ⟨_, rfl, ?_⟩
 simp only [decide_eq_true_eq, decide_eq_false_iff_not]
 omega
end Go.Proofs.Yteellfgiejnigaa
namespace Go.Proofs.Yteellfgiejnigaa
open Go.ChangeShapes Go.WideShapes Go.ChangeAt Go.RowKit
set_option linter.unusedVariables false
section
variable {own own' : Own} {w w' : World} {i p q g t0 N : Nat} {who0 : Int} {r : RS.Rf} {x : Ov} {o : RS.Ou} {M : Nat}
theorem Nb.setNext (h : Nb M r) (f : Nat) {k : Nat} (hk : k ≤ M) : Nb M { r with next := fun j => if j = f then k else r.next j } :=
 ⟨h.hM, h.n7, h.id, h.T1, h.T2, h.term, h.base, h.bt, h.len, h.es, h.commit, h.role, h.leader, h.left, h.quiet, h.beat, h.who, h.round, fun q => by show (if q = f then k else r.next q) ≤ M; split; exact hk; exact h.next q, h.mt⟩
theorem Nb.setMt (h : Nb M r) (f : Nat) {k : Nat} (hk : k ≤ M) : Nb M { r with mt := fun j => if j = f then k else r.mt j } :=
 ⟨h.hM, h.n7, h.id, h.T1, h.T2, h.term, h.base, h.bt, h.len, h.es, h.commit, h.role, h.leader, h.left, h.quiet, h.beat, h.who, h.round, h.next, fun q => by show (if q = f then k else r.mt q) ≤ M; split; exact hk; exact h.mt q⟩
theorem added_no (r : RS.Rf) (f : Nat) (nt : RS.Nt) (h : nt.yes = false) {k : Nat} (hk : k = max (min (r.next f - 1) (nt.index + 1)) (r.mt f + 1)) : r.added f nt = (({ r with next := fun j => if j = f then k else r.next j } : RS.Rf), ({ r with next := fun j => if j = f then k else r.next j } : RS.Rf).update RS.Ou.none f) := by
 subst hk; unfold RS.Rf.added; rw [if_pos h]
theorem added_yes (r : RS.Rf) (f : Nat) (nt : RS.Nt) (h : nt.yes = true) {m m1 : Nat} (hm : m = max (r.mt f) (min nt.index r.last)) (hm1 : m1 = m + 1) : r.added f nt = (({ ({ r with mt := fun j => if j = f then m else r.mt j } : RS.Rf) with next := fun j => if j = f then m1 else r.next j } : RS.Rf).see, if m1 ≤ r.last then ({ ({ r with mt := fun j => if j = f then m else r.mt j } : RS.Rf) with next := fun j => if j = f then m1 else r.next j } : RS.Rf).see.update RS.Ou.none f else RS.Ou.none) := by
 subst hm1; subst hm; unfold RS.Rf.added; rw [if_neg (by rw [h]; decide)]
set_option maxRecDepth 100000 in
set_option maxHeartbeats 2000000 in
theorem added_w (own : Own) (i p q g t0 : Nat) (who0 : Int) (r : RS.Rf) (x : Ov) (w : World) (h : StAt own w i p q g t0 who0 r x RS.Ou.none) (M : Nat) (hb : Nb M r) (hM : M ≤ 90000) (f : Nat) (hf : f < 7) (hnx : 1 ≤ r.next f) (nt : RS.Nt) (hix : nt.index ≤ 4611686018427387904) (pl pd : Option Addr) (nl cl nd cd : Nat) :
 Calls Try.prog 122 #[.pointer (some ⟨q, 0, none⟩), .int .i64 (f : Int), .agg #[.int .u8 (nt.kind : Int), .int .u64 (nt.term : Int), .int .u64 (nt.round : Int), .int .u64 (nt.index : Int), .int .u64 (nt.at_ : Int), .int .u64 (nt.commit : Int), .bool nt.yes, .slice pl nl cl, .slice pd nd cd]] w fun e w' => (∃ v, e = .returned v) ∧ Stp own w (fun l => l = i ∨ l = 7) i p q g t0 who0 (r.added f nt).1 x (r.added f nt).2 w' := by
 have hi7 := h.nd.hi
 have Hb := zh hb
 have hN := hb.next f
 have hMt := hb.mt f
 obtain ⟨w1, hw1⟩ : ∃ w1, w.alloc (.cells #[.int .u8 (nt.kind : Int), .int .u64 (nt.term : Int), .int .u64 (nt.round : Int), .int .u64 (nt.index : Int), .int .u64 (nt.at_ : Int), .int .u64 (nt.commit : Int), .bool nt.yes, .slice pl nl cl, .slice pd nd cd] 31) = w1 := ⟨_, rfl⟩
 have H1 := zh (h.alloc (.cells #[.int .u8 (nt.kind : Int), .int .u64 (nt.term : Int), .int .u64 (nt.round : Int), .int .u64 (nt.index : Int), .int .u64 (nt.at_ : Int), .int .u64 (nt.commit : Int), .bool nt.yes, .slice pl nl cl, .slice pd nd cd] 31))
 have HX1 := zh (Bx.new own w #[.int .u8 (nt.kind : Int), .int .u64 (nt.term : Int), .int .u64 (nt.round : Int), .int .u64 (nt.index : Int), .int .u64 (nt.at_ : Int), .int .u64 (nt.commit : Int), .bool nt.yes, .slice pl nl cl, .slice pd nd cd] 31)
 have HM1 := zh ((Mv.refl (fun l => l = i ∨ l = 7) own w).alloc7 (.cells #[.int .u8 (nt.kind : Int), .int .u64 (nt.term : Int), .int .u64 (nt.round : Int), .int .u64 (nt.index : Int), .int .u64 (nt.at_ : Int), .int .u64 (nt.commit : Int), .bool nt.yes, .slice pl nl cl, .slice pd nd cd] 31))
 have Hlen := zh (show r.es.length ≤ 1000000 by have := hb.len; have := hb.hM; omega)
 have hlast0 : r.base + r.es.length ≤ 200000 := by have h1 := hb.base; have h2 := hb.len; omega
 rw [hw1] at H1 HX1 HM1
 have HW := zh hw1
 clear h hw1 hb
 generalize ext own w.heap.size 9 = own1 at *
 have Htip := zh (H1.out.nd.tk.elim fun v htk => tip_w _ g r.base r.bt v r.es w1 htk Hlen.out)
 obtain ⟨last, hlast⟩ : ∃ n, n = r.base + r.es.length := ⟨_, rfl⟩
 rw [← hlast] at Htip hlast0
 have Hl := zh (show last = r.last from hlast)
 clear hlast
 obtain ⟨N, hNe⟩ : ∃ n, n = r.next f := ⟨_, rfl⟩
 obtain ⟨mt, hMe⟩ : ∃ n, n = r.mt f := ⟨_, rfl⟩
 rw [← hNe] at hN hnx
 rw [← hMe] at hMt
 have HN := zh hNe
 have HMt := zh hMe
 clear hNe hMe
 have hf0 : (0 : Int) ≤ (f : Int) := by omega
 have hf7 : (f : Int) < 7 := by omega
 go_enter Try.func122, Try.ntmps122
 go_upto_region 1 with (fail)
 rw [HW.out]
 have hq0 := H1.out.q0
 have hp5 := H1.out.nd.ctk
 go_upto_region 3 with (go_at_call 23; refine (Htip.out).mono ?_; rintro e w2 ⟨rfl, hB⟩; have H2 := zh (H1.out.below hB); have HX2 := zh (HX1.out.below hB); have HM2 := zh (HM1.out.below hB); clear hB hq0 hp5)
 clear H1 HX1 HM1 Htip HW
 generalize ext own1 w1.heap.size 9 = own2 at *
 have hq0 := H2.out.q0
 have n3 : w2.cell? ⟨w.heap.size, 3, none⟩ = some (.int .u64 (nt.index : Int)) := HX2.out.c 3
 have kn : w2.cell? ⟨p, 20 + f * 2, none⟩ = some (.int .u64 (N : Int)) := by rw [HN.out]; exact H2.out.nd.cnext hf
 have km : w2.cell? ⟨p, 20 + f * 2 + 1, none⟩ = some (.int .u64 (mt : Int)) := by rw [HMt.out]; exact H2.out.nd.cmt hf
 have fn := H2.out.nd.frozen (20 + f * 2)
 have fm := H2.out.nd.frozen (20 + f * 2 + 1)
 rcases Bool.eq_false_or_eq_true nt.yes with hy | hy
 · have n6 : w2.cell? ⟨w.heap.size, 6, none⟩ = some (.bool true) := (HX2.out.c 6).trans (by rw [← hy]; rfl)
   have Hy := zh hy
   clear hy
   obtain ⟨m, hm, hc⟩ := yes_cases last nt.index mt
   rcases hc with ⟨iA, nA, iB, nB, dA, eA, dB, eB, hz⟩ | ⟨iA, nA, iB, nB, dA, eA, dB, eB, hz⟩ | ⟨iA, nA, iB, nB, dA, eA, dB, eB, hz⟩ | ⟨iA, nA, iB, nB, dA, eA, dB, eB, hz⟩
   all_goals
    have HZ := zh hz
    have Hm := zh hm
    clear hz hm
    go_upto_region 6 with (fail)
    go_still_tail 12, (by kernel_rfl)
    change wpList _ _ _ _ _ w2.drew
    have HD := zh H2.out.drew
    have HMD := zh (HM2.out.trans (Mv.drew (fun l => l = i ∨ l = 7) own2 w2))
    have km' : w2.drew.cell? ⟨p, 20 + f * 2 + 1, none⟩ = some (.int .u64 (mt : Int)) := km
    have fm' : w2.drew.frozen? ⟨p, 20 + f * 2 + 1, none⟩ = false := fm
    clear hq0 n3 n6 kn km fn fm H2 HX2 HM2
    generalize w2.drew = wd at *
    go_upto_region 7 with (fail)
    have hm := Hm.out
    obtain ⟨m1, hm1⟩ : ∃ k, k = m + 1 := ⟨_, rfl⟩
    first
     | (rw [show wd.setCell ⟨p, 20 + f * 2 + 1, none⟩ (.int .u64 (last : Int)) = wd.setCell ⟨p, 20 + f * 2 + 1, none⟩ (.int .u64 (m : Int)) from by rw [HZ.out]])
     | (rw [show wd.setCell ⟨p, 20 + f * 2 + 1, none⟩ (.int .u64 (nt.index : Int)) = wd.setCell ⟨p, 20 + f * 2 + 1, none⟩ (.int .u64 (m : Int)) from by rw [HZ.out]])
     | (rw [show wd.setCell ⟨p, 20 + f * 2 + 1, none⟩ (.int .u64 (mt : Int)) = wd.setCell ⟨p, 20 + f * 2 + 1, none⟩ (.int .u64 (m : Int)) from by rw [HZ.out]])
    have hlM : last ≤ 2 * M := by rw [Hl.out]; show r.base + r.es.length ≤ _; have h1 := Hb.out.base; have h2 := Hb.out.len; omega
    have hmM : m1 ≤ 2 * M + 1 := by omega
    have hmM0 : m ≤ 2 * M + 1 := by omega
    clear iA nA iB nB dA eA dB eB
    have HV := zh (added_yes r f nt Hy.out (m := m) (m1 := m1) (by have h1 := Hl.out; have h2 := HMt.out; omega) hm1)
    have H3 := zh (HD.out.setp (20 + f * 2 + 1) (.int .u64 (m : Int)) { r with mt := fun j => if j = f then m else r.mt j } (set_mt _ _ hf _) rfl rfl rfl)
    have HM3 := zh (HMD.out.trans ((Mv.set (L := fun l => l = i) (own := own2) (w := wd) (a := ⟨p, 20 + f * 2 + 1, none⟩) HD.out.nd.op (.int .u64 (m : Int))).mono fun l e => .inl e))
    clear km' fm' HD HMD hm
    generalize wd.setCell ⟨p, 20 + f * 2 + 1, none⟩ (.int .u64 (m : Int)) = w3 at *
    have e1 : IntKind.u64.wrap ((m : Int) + 1) = (m1 : Int) := by rw [IntWalk.u64_in _ (by omega)]; omega
    have Hm1 := zh hm1
    clear hm1
    have km3 : w3.cell? ⟨p, 20 + f * 2 + 1, none⟩ = some (.int .u64 (m : Int)) := (H3.out.nd.cmt hf).trans (by simp)
    have fn3 := H3.out.nd.frozen (20 + f * 2)
    have kn3 := H3.out.nd.cnext hf
    go_upto_region 8 with (fail)
    have H4 := zh (H3.out.setp (20 + f * 2) (.int .u64 (m1 : Int)) { ({ r with mt := fun j => if j = f then m else r.mt j } : RS.Rf) with next := fun j => if j = f then m1 else r.next j } (set_next _ _ hf _) rfl rfl rfl)
    have HM4 := zh (HM3.out.trans ((Mv.set (L := fun l => l = i) (own := own2) (w := w3) (a := ⟨p, 20 + f * 2, none⟩) H3.out.nd.op (.int .u64 (m1 : Int))).mono fun l e => .inl e))
    clear km3 fn3 kn3 e1 H3 HM3
    generalize w3.setCell ⟨p, 20 + f * 2, none⟩ (.int .u64 (m1 : Int)) = w4 at *
    have Hnb := zh (((Hb.out.mono (M' := 2 * M + 1) (by omega) (by omega)).setMt f hmM0).setNext f hmM)
    have Hsee := zh (see_w own2 i p q g t0 who0 { ({ r with mt := fun j => if j = f then m else r.mt j } : RS.Rf) with next := fun j => if j = f then m1 else r.next j } x RS.Ou.none w4 H4.out (2 * M + 1) Hnb.out)
    have Hnb2 := zh (Hnb.out.see (by show r.base + r.es.length ≤ _; have h1 := Hb.out.base; have h2 := Hb.out.len; omega))
    go_upto_region 9 with (go_at_call 109; refine (Hsee.out).mono ?_; rintro e w5 ⟨⟨v, rfl⟩, own5, x5, h5, a5, m5⟩; have H5 := zh h5; have HA5 := zh a5; have HM5 := zh (HM4.out.trans (m5.mono fun l e => .inl e)); clear h5 a5 m5)
    have kn5 : w5.cell? ⟨p, 20 + f * 2, none⟩ = some (.int .u64 (m1 : Int)) := (H5.out.nd.cnext hf).trans (by show some (Value.int .u64 (((if f = f then m1 else r.next f : Nat)) : Int)) = _; simp)
    by_cases hle : m1 ≤ last
    · have c1 : decide (m1 ≤ last) = true := by simpa using hle
      have c2 : decide ((m1 : Int) ≤ (last : Int)) = true := by simp; omega
      have HV2 := zh (show m1 ≤ r.last by rw [← Hl.out]; exact hle)
      clear hle
      have Hu := zh (update_w own5 i p q g t0 who0 _ x5 RS.Ou.none w5 H5.out (2 * M + 1) Hnb2.out f hf (Nat.zero_le _) (Nat.zero_le _))
      go_wp2_with (go_at_call 130; refine (Hu.out).mono ?_; rintro e w6 ⟨⟨v, rfl⟩, own6, x6, h6, a6, m6⟩; have H6 := zh h6; have HA6 := zh (HA5.out.trans a6); have HM6 := zh (HM5.out.trans (m6.mono fun l e => .inr e)); clear h6 a6 m6)
      go_end0
      rw [HV.out, if_pos HV2.out]
      exact ⟨⟨_, rfl⟩, own6, x6, H6.out, HA6.out, HM6.out⟩
    · have c1 : decide (m1 ≤ last) = false := by simp; omega
      have c2 : decide ((m1 : Int) ≤ (last : Int)) = false := by simp; omega
      have HV2 := zh (show ¬ m1 ≤ r.last by rw [← Hl.out]; exact hle)
      clear hle
      go_wp2
      go_end0
      rw [HV.out, if_neg HV2.out]
      exact ⟨⟨_, rfl⟩, own5, x5, H5.out, HA5.out, HM5.out⟩
 · have n6 : w2.cell? ⟨w.heap.size, 6, none⟩ = some (.bool false) := (HX2.out.c 6).trans (by rw [← hy]; rfl)
   have Hy := zh hy
   clear hy
   obtain ⟨k, hk, hc⟩ := no_cases N nt.index mt hnx
   rcases hc with ⟨iA, iB, dA, dB, hz⟩ | ⟨iA, iB, dA, dB, hz⟩ | ⟨iA, iB, dA, dB, hz⟩ | ⟨iA, iB, dA, dB, hz⟩
   all_goals
    have HZ := zh hz
    have Hk := zh hk
    clear hz hk
    have e1 : IntKind.u64.wrap ((N : Int) - 1) = (N : Int) - 1 := IntWalk.u64_in _ (by omega)
    have e2 : IntKind.u64.wrap ((nt.index : Int) + 1) = (nt.index : Int) + 1 := IntWalk.u64_in _ (by omega)
    have e3 : IntKind.u64.wrap ((mt : Int) + 1) = (mt : Int) + 1 := IntWalk.u64_in _ (by omega)
    go_upto_region 4 with (fail)
    go_still_tail 18, (by kernel_rfl)
    change wpList _ _ _ _ _ w2.drew
    have HD := zh H2.out.drew
    have HMD := zh (HM2.out.trans (Mv.drew (fun l => l = i ∨ l = 7) own2 w2))
    have kn' : w2.drew.cell? ⟨p, 20 + f * 2, none⟩ = some (.int .u64 (N : Int)) := kn
    have fn' : w2.drew.frozen? ⟨p, 20 + f * 2, none⟩ = false := fn
    clear hq0 n3 n6 kn km fn fm H2 HX2 HM2
    generalize w2.drew = wd at *
    go_upto_region 5 with (fail)
    rw [HZ.out]
    have hk := Hk.out
    have hkM : k ≤ M + 1 := by omega
    have HV := zh (added_no r f nt Hy.out (k := k) (by rw [hk, HN.out, HMt.out]))
    have H3 := zh (HD.out.setp (20 + f * 2) (.int .u64 (k : Int)) { r with next := fun j => if j = f then k else r.next j } (set_next _ _ hf _) rfl rfl rfl)
    have HM3 := zh (HMD.out.trans ((Mv.set (L := fun l => l = i) (own := own2) (w := wd) (a := ⟨p, 20 + f * 2, none⟩) HD.out.nd.op (.int .u64 (k : Int))).mono fun l e => .inl e))
    have Hu := zh (update_w own2 i p q g t0 who0 { r with next := fun j => if j = f then k else r.next j } x RS.Ou.none _ H3.out (M + 1) ((Hb.out.mono (M' := M + 1) (by omega) (by omega)).setNext f hkM) f hf (Nat.zero_le _) (Nat.zero_le _))
    clear kn' fn' HD HMD hk hkM iA iB dA dB
    go_wp2_with (go_at_call 130; refine (Hu.out).mono ?_; rintro e w4 ⟨⟨v, rfl⟩, own4, x4, h4, a4, m4⟩; have H4 := zh h4; have HA4 := zh a4; have HM4 := zh (HM3.out.trans (m4.mono fun l e => .inr e)); clear h4 a4 m4)
    refine bodyPost_ret (results_none rfl _ _ _) rfl ?_
    rw [HV.out]
    exact ⟨⟨_, rfl⟩, own4, x4, H4.out, HA4.out, HM4.out⟩
end
section
variable {own own' : Own} {w w' : World} {i p q g t0 N : Nat} {who0 : Int} {r : RS.Rf} {x : Ov} {o : RS.Ou} {M : Nat}
set_option maxRecDepth 100000 in
theorem track_w (own : Own) (i p g : Nat) (r : RS.Rf) (w : World) (h : NdAt own w i p g r) (M : Nat) (hb : Nb M r) :
 Calls Try.prog 66 #[.pointer (some ⟨p, 0, none⟩)] w fun e w' => ∃ N v', e = .returned (.pointer (some ⟨N, 0, none⟩)) ∧ w.heap.size ≤ N ∧ TkAt w' (fun b => w.heap.size ≤ b) N r.base r.bt v' r.es ∧ Below w.heap.size w w' := by
 have hp5 := h.ctk
 have HN := zh (none_w own i p g r w h)
 have hlen : r.es.length ≤ 1000000 := by have := hb.len; have := hb.hM; omega
 have hel : ∀ e ∈ r.es, e.2.length ≤ 1000000 := fun e he => by have := (hb.es e he).2; omega
 have Hc := zh (h.tk.elim fun v htk => copy_w _ g r.base r.bt v r.es w htk hlen hel)
 clear h hb hlen hel
 go_enter Try.func66, Try.ntmps66
 go_wp2_with (first
  | (go_at_call 106; refine (HN.out).mono ?_; rintro e w2 ⟨rfl, rfl⟩)
  | (go_at_call 39; refine (Hc.out).mono ?_; rintro e w3 ⟨N, v', rfl, a1, a2, a3⟩; have HA := zh (And.intro a1 (And.intro a2 a3)); clear a1 a2 a3))
 go_ret
 exact ⟨N, v', rfl, HA.out.1, HA.out.2.1, HA.out.2.2⟩
set_option maxRecDepth 100000 in
theorem ndpack_yes_w (own : Own) (i p g : Nat) (r : RS.Rf) (w : World) (h : NdAt own w i p g r) (M : Nat) (hb : Nb M r) (h1 : r.base ≤ r.commit) (h2 : r.commit ≤ r.last) :
 Calls Try.prog 60 #[.pointer (some ⟨p, 0, none⟩), .int .u64 (r.commit : Int)] w fun e w' => e = .returned (.int .i64 0) ∧ ∃ own', NdAt own' w' i p g r.pack ∧ Mv (fun l => l = i) own w own' w' := by
 have hp5 := h.ctk
 have hp6 := h.ccommit
 have HN := zh (none_w own i p g r w h)
 have hlen : r.es.length ≤ 1000000 := by have := hb.len; have := hb.hM; omega
 have hmay : mayI r.base r.es.length r.commit = true := by
  unfold mayI
  have h3 : r.commit ≤ r.base + r.es.length := h2
  simp [h1, h3]
 have Hc := zh (h.tk.elim fun v htk => pack_ok_w _ g r.base r.bt r.commit v r.es w htk hmay hlen)
 have H := zh h
 clear h hb hlen hmay h1 h2
 go_enter Try.func60, Try.ntmps60
 go_wp2_with (first
  | (go_at_call 106; refine (HN.out).mono ?_; rintro e w2 ⟨rfl, rfl⟩)
  | (go_at_call 34; refine (Hc.out).mono ?_; rintro e w3 ⟨rfl, a1, a2⟩; have HA := zh (And.intro a1 a2); clear a1 a2))
 go_ret
 obtain ⟨k1, k2⟩ := H.out.touched (r' := r.pack) HA.out.2 rfl HA.out.1
 exact ⟨rfl, _, k1, k2⟩
end
structure REv where
 kind : Int
 node : Int
 n : Int
 data : List UInt8
 draw : Nat
structure REvAt (w : World) (b off : Nat) (e : REv) : Prop where
 k0 : w.cell? ⟨b, off, none⟩ = some (.int .i64 e.kind)
 k1 : w.cell? ⟨b, off + 1, none⟩ = some (.int .i64 e.node)
 k2 : w.cell? ⟨b, off + 2, none⟩ = some (.int .i64 e.n)
 k3 : ∃ p c, w.cell? ⟨b, off + 3, none⟩ = some (.slice p e.data.length c) ∧ RdB w (.slice p e.data.length c) e.data
 k4 : w.cell? ⟨b, off + 4, none⟩ = some (.int .u64 (e.draw : Int))
theorem REvAt.keeps {w w' : World} {b off : Nat} {e : REv} (h : REvAt w b off e) (hk : Keeps w w') : REvAt w' b off e := by
 obtain ⟨p, c, h3, h4⟩ := h.k3
 exact ⟨hk.cell h.k0, hk.cell h.k1, hk.cell h.k2, ⟨p, c, hk.cell h3, h4.keeps hk⟩, hk.cell h.k4⟩
def REvs (w : World) (p : Option Addr) (ls : List REv) : Prop := ∀ i (hi : i < ls.length), ∃ b off, p = some ⟨b, off, none⟩ ∧ REvAt w b (off + i * 5) ls[i]
theorem REvs.keeps {w w' : World} {p : Option Addr} {ls : List REv} (h : REvs w p ls) (hk : Keeps w w') : REvs w' p ls := fun i hi => by
 obtain ⟨b, off, e, h1⟩ := h i hi; exact ⟨b, off, e, h1.keeps hk⟩
def evsOk (ls : List REv) (most : Int) : Bool := decide ((ls.length : Int) ≤ most) && ls.all fun e => decide (e.data.length ≤ 1000)
set_option maxRecDepth 100000 in
set_option maxHeartbeats 1000000 in
theorem events_w (p : Option Addr) (c : Nat) (ls : List REv) (most : Int) (w : World) (h : REvs w p ls) (hl : ls.length ≤ 9223372036854775807) :
 Calls Try.prog 49 #[.slice p ls.length c, .int .i64 most] w fun e w' => e = .returned (.bool (evsOk ls most)) ∧ Below w.heap.size w w' := by
 have H := zh h
 clear h
 by_cases hm : (ls.length : Int) ≤ most
 · have e1 : decide (most < (ls.length : Int)) = false := by simp; omega
   have Hm := zh hm
   clear hm
   go_enter Try.func49, Try.ntmps49
   go_wp2
   go_loopw [5] (fun i wr => ∃ k : Nat, k ≤ ls.length ∧ i = .int .i64 (k : Int) ∧ Hid ((ls.take k).all (fun e => decide (e.data.length ≤ 1000)) = true) ∧ Hid (Below w.heap.size w wr)) (fun i _ => ls.length - (intOf i).toNat)
   case atStart => exact ⟨0, Nat.zero_le _, rfl, zh rfl, zh (Below.refl _ _)⟩
   case round =>
    obtain ⟨k, hk, rfl, HT, HB⟩ := hrel
    by_cases hlt : k < ls.length
    · obtain ⟨b, off, rfl, hat⟩ := H.out k hlt
      have Hse := zh (show ls.take (k + 1) = ls.take k ++ [ls[k]] by rw [List.take_succ_eq_append_getElem hlt])
      have hat2 := hat.keeps (show Keeps w wr from HB.out.block)
      obtain ⟨dp, dc, h3, h4⟩ := hat2.k3
      have Hno := zh (fun (h : ¬ ls[k].data.length ≤ 1000) => (show evsOk ls most = false from by
       unfold evsOk
       rw [show ls.all (fun e => decide (e.data.length ≤ 1000)) = false from by
        rw [List.all_eq_false]
        exact ⟨ls[k], List.getElem_mem _, by simpa using h⟩]
       simp))
      have Hyes := zh (fun (h : ls[k].data.length ≤ 1000) => (show (ls.take (k + 1)).all (fun e => decide (e.data.length ≤ 1000)) = true from by
       rw [Hse.out, List.all_append, HT.out]
       simp [h]))
      clear hat hat2 h4 Hse
      generalize ls[k].data.length = n at *
      have hnb : ¬ ((ls.length : Int) ≤ (k : Int)) := by omega
      by_cases hn : n ≤ 1000
      · have e2 : decide ((1000 : Int) < (n : Int)) = false := by simp; omega
        have e3 : decide (1000 < n) = false := by simp; omega
        go_wp2
        go_roundw
        case rel => exact ⟨k + 1, by omega, by go_num, zh (Hyes.out hn), HB⟩
        case measure => simp [intOf]; omega
      · have e2 : decide ((1000 : Int) < (n : Int)) = true := by simp; omega
        have e3 : decide (1000 < n) = true := by simp; omega
        go_wp2
        go_ret
        exact ⟨by rw [Hno.out hn]; rfl, HB.out⟩
    · obtain rfl : k = ls.length := by omega
      go_wp2
      go_ret
      refine ⟨?_, HB.out⟩
      have h1 := HT.out
      rw [List.take_length] at h1
      unfold evsOk
      rw [h1]
      simp [Hm.out]
 · have e1 : decide (most < (ls.length : Int)) = true := by simp; omega
   have Hno := zh (show evsOk ls most = false by unfold evsOk; simp; intro h; omega)
   clear hm
   go_enter Try.func49, Try.ntmps49
   go_wp2
   go_ret
   exact ⟨by rw [Hno.out]; rfl, Below.refl _ _⟩
theorem pick_max (a b : Nat) : (decide ((a : Int) < (b : Int)) = true ∧ decide (a < b) = true ∧ (b : Int) = ((max a b : Nat) : Int)) ∨ (decide ((a : Int) < (b : Int)) = false ∧ decide (a < b) = false ∧ (a : Int) = ((max a b : Nat) : Int)) := by
 simp only [decide_eq_true_eq, decide_eq_false_iff_not]; omega
theorem pick_min (a b : Nat) : (decide ((b : Int) < (a : Int)) = true ∧ decide (b < a) = true ∧ (b : Int) = ((min a b : Nat) : Int)) ∨ (decide ((b : Int) < (a : Int)) = false ∧ decide (b < a) = false ∧ (a : Int) = ((min a b : Nat) : Int)) := by
 simp only [decide_eq_true_eq, decide_eq_false_iff_not]; omega
theorem sliceR_len (B : Nat) (es : List Ent) (fr : Nat) (z : Int) : (sliceR B es fr z).length ≤ es.length := by
 unfold sliceR
 split
 · exact Nat.zero_le _
 · simp; omega
set_option maxRecDepth 100000 in
set_option maxHeartbeats 2000000 in
theorem agree_w (S1 S2 : Foot) (g1 g2 B1 B2 T1 T2 : Nat) (v1 v2 : Value) (es fs : List Ent) (w : World) (h1 : TkAt w S1 g1 B1 T1 v1 es) (h2 : TkAt w S2 g2 B2 T2 v2 fs) (hn1 : es.length ≤ 1000000) (hn2 : fs.length ≤ 1000000) (hl1 : ∀ e ∈ es, e.2.length ≤ 1000000) (hl2 : ∀ e ∈ fs, e.2.length ≤ 1000000) (hb1 : B1 ≤ 1000000) (hb2 : B2 ≤ 1000000)
 (L1 L2 : Nat) (hL1 : L1 = B1 + es.length) (hL2 : L2 = B2 + fs.length) (lo hi : Nat) (hlo : lo = max B1 B2) (hhi : hi = min L1 L2)
 (hag : ∀ m, lo < m → m ≤ hi → (termAt B1 T1 es m).1 = (termAt B2 T2 fs m).1 → sliceR B1 es (lo + 1) ((m : Int) - (lo : Int)) = sliceR B2 fs (lo + 1) ((m : Int) - (lo : Int))) :
 Calls Try.prog 104 #[.pointer (some ⟨g1, 0, none⟩), .pointer (some ⟨g2, 0, none⟩)] w fun e w' => e = .returned (.bool true) ∧ Below w.heap.size w w' := by
 have hk1 : L1 ≤ 2000000 := by omega
 have hk2 : L2 ≤ 2000000 := by omega
 have HK1 := zh (fun W (k : Below w.heap.size w W) => base_w S1 g1 B1 T1 v1 es W (h1.keeps k.block))
 have HK2 := zh (fun W (k : Below w.heap.size w W) => base_w S2 g2 B2 T2 v2 fs W (h2.keeps k.block))
 have HP1 := zh (fun W (k : Below w.heap.size w W) => tip_w S1 g1 B1 T1 v1 es W (h1.keeps k.block) hn1)
 have HP2 := zh (fun W (k : Below w.heap.size w W) => tip_w S2 g2 B2 T2 v2 fs W (h2.keeps k.block) hn2)
 rw [← hL1] at HP1
 rw [← hL2] at HP2
 have HA1 := zh (fun W (k : Below w.heap.size w W) m (hm : m < 2 ^ 64) => termat_w S1 g1 B1 T1 v1 es m W (h1.keeps k.block) hn1 hm)
 have HA2 := zh (fun W (k : Below w.heap.size w W) m (hm : m < 2 ^ 64) => termat_w S2 g2 B2 T2 v2 fs m W (h2.keeps k.block) hn2 hm)
 have HS1 := zh (fun W (k : Below w.heap.size w W) m (hm : m < 2 ^ 64) z (hz : -9223372036854775808 ≤ z ∧ z ≤ 9223372036854775807) => slice_w S1 g1 B1 T1 m z v1 es W (h1.keeps k.block) hn1 hl1 hm hz)
 have HS2 := zh (fun W (k : Below w.heap.size w W) m (hm : m < 2 ^ 64) z (hz : -9223372036854775808 ≤ z ∧ z ≤ 9223372036854775807) => slice_w S2 g2 B2 T2 m z v2 fs W (h2.keeps k.block) hn2 hl2 hm hz)
 have Hag := zh hag
 have Hln := zh (fun fr z => (show (sliceR B1 es fr z).length ≤ 1000000 from Nat.le_trans (sliceR_len B1 es fr z) hn1))
 have hlo2 : lo ≤ 1000000 := by omega
 have hhi2 : hi ≤ 2000000 := by omega
 have e1 := pick_max B1 B2
 have e2 := pick_min L1 L2
 rw [← hlo] at e1
 rw [← hhi] at e2
 clear hlo hhi
 clear h1 h2 hn1 hn2 hl1 hl2 hag hL1 hL2
 rcases e1 with ⟨d1, d2, z1⟩ | ⟨d1, d2, z1⟩ <;> rcases e2 with ⟨d3, d4, z2⟩ | ⟨d3, d4, z2⟩
 all_goals
  have Z1 := zh z1
  have Z2 := zh z2
  clear z1 z2
  have HB := zh (Below.refl w.heap.size w)
  go_enter Try.func104, Try.ntmps104
  go_wp2_with (first
   | (go_at_call 42; (with_reducible refine (HK1.out _ HB.out).mono ?_); rintro e w1 ⟨rfl, hB⟩; have HB := zh (HB.out.trans (hB.mono HB.out.size)); clear hB)
   | (go_at_call 42; (with_reducible refine (HK2.out _ HB.out).mono ?_); rintro e w1 ⟨rfl, hB⟩; have HB := zh (HB.out.trans (hB.mono HB.out.size)); clear hB)
   | (go_at_call 23; (with_reducible refine (HP1.out _ HB.out).mono ?_); rintro e w1 ⟨rfl, hB⟩; have HB := zh (HB.out.trans (hB.mono HB.out.size)); clear hB)
   | (go_at_call 23; (with_reducible refine (HP2.out _ HB.out).mono ?_); rintro e w1 ⟨rfl, hB⟩; have HB := zh (HB.out.trans (hB.mono HB.out.size)); clear hB))
  rw [Z1.out, Z2.out]
  go_loopw [15] (fun i wr => ∃ m : Nat, m ≤ hi ∧ i = .int .u64 (m : Int) ∧ Hid (Below w.heap.size w wr)) (fun i _ => (intOf i).toNat)
  case atStart => exact ⟨hi, Nat.le_refl _, rfl, HB⟩
  case round =>
   obtain ⟨m, hm, rfl, HB⟩ := hrel
   clear d1 d2 d3 d4
   by_cases hlt : lo < m
   · have d1 : decide ((lo : Int) < (m : Int)) = true := by simp; omega
     have d2 : decide (lo < m) = true := by simp; omega
     have Hm := zh (Hag.out m hlt hm)
     obtain ⟨lo1, hlo1⟩ : ∃ k, k = lo + 1 := ⟨_, rfl⟩
     obtain ⟨m1, hm1⟩ : ∃ k, k + 1 = m := ⟨m - 1, by omega⟩
     rw [← hlo1] at Hm
     have e1 : IntKind.u64.wrap ((lo : Int) + 1) = (lo1 : Int) := by rw [IntWalk.u64_in _ (by omega)]; omega
     have e2 : IntKind.u64.wrap ((m : Int) - (lo : Int)) = (m : Int) - (lo : Int) := IntWalk.u64_in _ (by omega)
     have e3 : IntKind.i64.wrap ((m : Int) - (lo : Int)) = (m : Int) - (lo : Int) := IntWalk.i64_in _ (by omega)
     have e4 : IntKind.u64.wrap ((m : Int) - 1) = (m1 : Int) := by rw [IntWalk.u64_in _ (by omega)]; omega
     have HZ := zh (show -9223372036854775808 ≤ (m : Int) - (lo : Int) ∧ (m : Int) - (lo : Int) ≤ 9223372036854775807 by omega)
     have HM64 := zh (show m < 2 ^ 64 by omega)
     have HL64 := zh (show lo1 < 2 ^ 64 by omega)
     have Hm1 := zh hm1
     clear hm1 hlo1
     generalize ha1 : termAt B1 T1 es m = a1 at *
     generalize ha2 : termAt B2 T2 fs m = a2 at *
     have A1 := zh (fun W (k : Below w.heap.size w W) => (show Calls _ _ _ _ _ from by have := HA1.out W k m HM64.out; rw [ha1] at this; exact this))
     have A2 := zh (fun W (k : Below w.heap.size w W) => (show Calls _ _ _ _ _ from by have := HA2.out W k m HM64.out; rw [ha2] at this; exact this))
     clear ha1 ha2
     obtain ⟨a, ab⟩ := a1
     obtain ⟨b, bb⟩ := a2
     by_cases hab : a = b
     · subst hab
       have HE := zh (Hm.out rfl)
       go_wp2_with (first
        | (go_at_call 28; (with_reducible refine (A1.out _ HB.out).mono ?_); rintro e w1 ⟨rfl, hB⟩; have HB := zh (HB.out.trans (hB.mono HB.out.size)); clear hB)
        | (go_at_call 28; (with_reducible refine (A2.out _ HB.out).mono ?_); rintro e w1 ⟨rfl, hB⟩; have HB := zh (HB.out.trans (hB.mono HB.out.size)); clear hB)
        | (go_at_call 25; (with_reducible refine (HS1.out _ HB.out _ HL64.out _ HZ.out).mono ?_); rintro e w4 ⟨u1, rfl, q1, hB⟩; have HQ1 := zh q1.rd; have HB := zh (HB.out.trans (hB.mono HB.out.size)); clear hB q1)
        | (go_at_call 25; (with_reducible refine (HS2.out _ HB.out _ HL64.out _ HZ.out).mono ?_); rintro e w5 ⟨u2, rfl, q2, hB⟩; have HQ2 := zh q2.rd; have HQ1 := zh (HQ1.out.keeps hB.block); have HB := zh (HB.out.trans (hB.mono HB.out.size)); clear q2)
        | (go_at_call 29; refine (same_w _ _ _ _ _ _ _ HQ1.out HQ2.out (Hln.out _ _)).mono ?_; rintro e w6 ⟨rfl, hB⟩; have HB := zh (HB.out.trans (hB.mono HB.out.size)); clear hB))
       go_ret
       exact ⟨by rw [HE.out]; simp, HB.out⟩
     · have f1 : (a == b) = false := by simpa using hab
       have f2 : ((a : Int) == (b : Int)) = false := by simp; omega
       clear hab
       go_wp2_with (first
        | (go_at_call 28; (with_reducible refine (A1.out _ HB.out).mono ?_); rintro e w1 ⟨rfl, hB⟩; have HB := zh (HB.out.trans (hB.mono HB.out.size)); clear hB)
        | (go_at_call 28; (with_reducible refine (A2.out _ HB.out).mono ?_); rintro e w1 ⟨rfl, hB⟩; have HB := zh (HB.out.trans (hB.mono HB.out.size)); clear hB))
       go_roundw
       case rel => exact ⟨m1, by have := Hm1.out; omega, rfl, HB⟩
       case measure => have := Hm1.out; simp [intOf]; omega
   · have d1 : decide ((lo : Int) < (m : Int)) = false := by simp; omega
     have d2 : decide (lo < m) = false := by simp; omega
     go_wp2
     go_ret
     exact ⟨rfl, HB.out⟩
section
variable {own own' : Own} {w w' : World} {i p q g t0 N : Nat} {who0 : Int} {r : RS.Rf} {x : Ov} {o : RS.Ou} {M : Nat}
set_option maxRecDepth 100000 in
set_option maxHeartbeats 1000000 in
theorem answer_w (own : Own) (i p q g t0 : Nat) (who0 : Int) (r : RS.Rf) (x : Ov) (o : RS.Ou) (w : World) (h : StAt own w i p q g t0 who0 r x o) (N1 N2 f ix : Nat) (y : Bool) (b1 : Bx own w N1 #[.pointer (some ⟨q, 0, none⟩)] 159) (b2 : Bx own w N2 #[.int .i64 (f : Int)] 3) (hs : o.send.length ≤ 100000) :
 Calls Try.prog 131 #[.int .u64 (ix : Int), .bool y, .pointer (some ⟨N1, 0, none⟩), .pointer (some ⟨N2, 0, none⟩)] w fun e w' => (∃ v, e = .returned v) ∧ Stp own w (fun l => l = 7) i p q g t0 who0 r x (r.answer o f ix y) w' := by
 have k1 := b1.c0
 have k2 := b2.c0
 have Hs := zh (send_w own i p q g t0 who0 r x o w h f { RS.Rf.nt 6 with index := ix, yes := y } 6 0 0 (ix : Int) 0 0 y none 0 0 none 0 0 rfl rfl rfl rfl rfl rfl (EsR.nil _ _) (dat0 _ _) hs)
 clear h hs b1 b2
 go_enter Try.func131, Try.ntmps131
 go_wp2_with (go_at_call 120; refine (Hs.out).mono ?_; rintro e w9 ⟨⟨v, rfl⟩, own9, x9, h9, a1, a2, a3, m9⟩; have H9 := zh h9; have HA := zh (show Adds x x9 from ⟨a1, a2, a3⟩); have HM9 := zh m9; clear h9 a1 a2 a3 m9)
 go_end0
 exact ⟨⟨_, rfl⟩, own9, x9, H9.out, HA.out, HM9.out⟩
end
end Go.Proofs.Yteellfgiejnigaa
