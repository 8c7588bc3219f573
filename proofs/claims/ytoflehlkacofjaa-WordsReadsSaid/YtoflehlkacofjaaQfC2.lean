/- words.taken: the walks. -/
import Derived.Test.YtoflehlkacofjaaQfC1
namespace Go.Proofs.Ytoflehlkacofjaa
open Go.ChangeShapes Go.WideShapes Go.ChangeAt Go.RowKit
set_option linter.unusedVariables false
theorem wpList_append_one2 {P : Program} {ops : Array Oper} {rest : List Oper} {o : Oper} {a : Act} {w : World} {Q : Exit → Act → World → Prop} (hgd : o.guard = none) (s x : Operand) (t : TypeId) (ho : o.op = .call { callee := .builtin .append, args := #[s, x], argTypes := #[t, t] })
    {base : Nat} {e : TypeId} {z : Value} {size bytes : Nat} (he : Elem P t e z size bytes)
    {v : Value} {n : Nat} {xs : List Value} (hown : w.ownsRow base e size v n xs) (hs : a.eval s = v) {xv : Value} {news : List Value} (hsrc : SrcR w size xv 1 news) (hx : a.eval x = xv)
    (hn : n ≤ 100000) (hbytes : bytes ≤ 64) (hbase : base ≤ w.heap.size)
    (h : ∀ p c w', w'.ownsRow base e size (.slice p (n + 1) c) (n + 1) (xs ++ news) → w.grownBy w' v.ownBlock → wpList P ops Q rest (a.put o.dst (.slice p (n + 1) c)) w') : wpList P ops Q (o :: rest) a w :=
  wpList_append_one hgd s x t ho he hs hown hx hsrc hn hbytes hbase h
theorem RV.same {W W' : World} {v : Value} {b : List UInt8} {R V : Nat} {a : Nat} {e : Int} (h : RV W v b R V a e) (hs : RegT.Same W W') : RV W' v b R V a e := h.keeps (show Keeps W W' from fun k _ => by rw [hs.heap])
theorem own_same {W W' : World} {base : Nat} {e : TypeId} {c : Nat} {v : Value} {n : Nat} {xs : List Value} (h : W.ownsRow base e c v n xs) (hs : RegT.Same W W') : W'.ownsRow base e c v n xs := own_keeps h (show Keeps W W' from fun k _ => by rw [hs.heap])
theorem grown_app {W wr w1 : World} {base R : Nat} {e : TypeId} {c : Nat} {v : Value} {n : Nat} {xs : List Value} (h : W.grownBy wr (some R)) (ho : wr.ownsRow base e c v n xs) (hb : W.heap.size ≤ base) (hg : wr.grownBy w1 v.ownBlock) : W.grownBy w1 (some R) :=
  ⟨hg.os.trans h.os, hg.tape.trans h.tape, hg.output.trans h.output, Nat.le_trans h.size hg.size, fun k hk hne => by
    rw [hg.block k (Nat.lt_of_lt_of_le hk h.size) (fun e => by have := (ho.lt k e.symm).1; omega), h.block k hk hne]⟩
/-- The reader stays where its row is appended to elsewhere. -/
theorem RV.app {wr w1 : World} {v sv : Value} {b : List UInt8} {R V : Nat} {a : Nat} {e' : Int} {base : Nat} {e : TypeId} {c : Nat} {n : Nat} {xs : List Value} (h : RV wr v b R V a e') (ho : wr.ownsRow base e c sv n xs) (hR : R < base) (hV : V < base) (hos : ∀ x, base ≤ x → Off v x) (hg : wr.grownBy w1 sv.ownBlock) : RV w1 v b R V a e' := by
  have hlt : ∀ k, sv.ownBlock = some k → base ≤ k := fun k e => (ho.lt k e).1
  refine ⟨?_, ?_, ?_, h.off, h.ha, h.hl, h.nRV⟩
  · have h1 := h.rd
    unfold Rdr at *
    rw [hg.block R (Array.getElem?_eq_some_iff.1 h1).1 (fun e => by have := hlt _ e.symm; omega)]; exact h1
  · rcases hx : sv.ownBlock with _ | g
    · rw [hx] at hg
      exact h.bs.keeps (show Keeps wr w1 from fun k hk => hg.block k hk (by simp))
    · rw [hx] at hg
      exact h.bs.grown hg (hos g (hlt g hx))
  · rw [hg.block V h.lV (fun e => by have := hlt _ e.symm; omega)]; exact h.rv
/-- What an append of one read element leaves. -/
theorem after_app {W w2 w3 : World} {v sv : Value} {b : List UInt8} {R V : Nat} {a : Nat} {e' : Int} {e : TypeId} {c n : Nat} {xs : List Value} (o : Obj) (hG : W.grownBy w2 (some R)) (hO : w2.ownsRow W.heap.size e c sv n xs) (hV : RV w2 v b R V a e') (hR : R < W.heap.size) (hVl : V < W.heap.size) (hos : ∀ x, W.heap.size ≤ x → Off v x) (hg : (w2.alloc o).grownBy w3 sv.ownBlock) : W.grownBy w3 (some R) ∧ RV w3 v b R V a e' :=
  have hk : Keeps w2 (w2.alloc o) := (Keeps.refl w2).alloc o
  ⟨grown_app (hG.trans (World.grownBy_alloc w2 o (some R))) (own_keeps hO hk) (Nat.le_refl _) hg, (hV.keeps hk).app (own_keeps hO hk) hR hVl hos hg⟩
set_option maxRecDepth 100000 in
set_option maxHeartbeats 3200000 in
theorem taken47_w {W : World} {v : Value} {b : List UInt8} {R V : Nat} {a : Nat} {e : Int} (h : RV W v b R V a e) :
    Calls Try.prog 47 #[.pointer (some ⟨R, 0, none⟩), .func (Fn.func 43) #[.pointer (some ⟨R, 0, none⟩)] #[]] W fun r W' => ∃ sv l a' e', r = .returned sv ∧ TkRel (s64 b) b a e l a' e' ∧ Moved W W' R v a' e' ∧ W'.ownsRow W.heap.size 24 1 sv l.length (l.flatMap (fun (n : Nat) => [Value.int .u64 (n : Int)])) ∧ a' ≤ b.length := by
  have H := Lib.hid h
  have Hos := Lib.hid (show ∀ x, W.heap.size ≤ x → Off v x from fun x hx => h.bs.off hx)
  have HlR := Lib.hid h.lR
  have HlV := Lib.hid h.lV
  have Htop := Lib.hid (small_top b a e 4000)
  have Hsat := Lib.hid (small_at (e := e) (most := 4000) h.ha)
  clear h
  obtain ⟨rr, hrr⟩ : ∃ rr, Form.small b a e 4000 = rr := ⟨_, rfl⟩
  obtain ⟨n, a1, e1⟩ := rr
  have Hr := Lib.hid hrr
  rw [hrr] at Htop Hsat
  clear hrr
  have hn : n ≤ 4000 := Htop.out
  go_enter Try.func47, Try.ntmps47
  go_wp2_with (go_at_call 42; (with_reducible refine (small_z R v b a e 4000 4000 rfl W H.out.rd H.out.bs H.out.ha H.out.hl (by decide)).mono ?_); rintro r W1 ⟨n', a1', e1', hs, rfl, hm⟩
               rw [Hr.out] at hs
               cases hs
               have HM1 := Lib.hid hm
               have HV1 := Lib.hid (H.out.moved hm Hsat.out)
               clear hm)
  have HG1 := Lib.hid HM1.out.2
  go_loopw [4, 7] (fun sv iv wr => ∃ (k : Nat) (p : Option Addr) (c : Nat), k ≤ n ∧ iv = .int .u64 (k : Int) ∧ sv = .slice p k c ∧ Hid (wr.ownsRow W.heap.size 24 1 (.slice p k c) k ((elN (s64 b) a1 e1 k).flatMap (fun (n : Nat) => [Value.int .u64 (n : Int)]))) ∧ Hid (RV wr v b R V (stN (s64 b) a1 e1 k).1 (stN (s64 b) a1 e1 k).2) ∧ Hid (W.grownBy wr (some R)) ∧ Hid (∀ j, j < k → (stN (s64 b) a1 e1 j).1 < b.length)) (fun _ i _ => n - (intOf i).toNat)
  case atStart => exact ⟨0, none, 0, Nat.zero_le _, rfl, rfl, Lib.hid (World.ownsRow_nil _ _ _ _), HV1, HG1, Lib.hid (fun j hj => absurd hj (Nat.not_lt_zero _))⟩
  case round =>
    clear HV1 HG1 HM1
    obtain ⟨k, p, c, hk, rfl, rfl, HO, HV, HG, HJ⟩ := hrel
    by_cases hlt : k < n
    · obtain ⟨st, hst⟩ : ∃ st, stN (s64 b) a1 e1 k = st := ⟨_, rfl⟩
      obtain ⟨ak, ek⟩ := st
      have Hst := Lib.hid hst
      rw [hst] at HV
      clear hst
      obtain ⟨d, hd⟩ : ∃ d, b.length - ak = d := ⟨_, rfl⟩
      have Hd := Lib.hid hd
      have HL := Lib.hid (left_w R v b ak ek wr HV.out.rd HV.out.bs HV.out.ha HV.out.hl)
      rw [hd] at HL
      clear hd
      by_cases h0 : d = 0
      · subst h0
        go_wp2_with (first
          | (go_at_call 74; (with_reducible refine (HL.out).mono ?_); rintro r w1 ⟨rfl, hS⟩; have HV1 := Lib.hid (HV.out.same hS); have HG1 := Lib.hid (HG.out.trans (same_grown hS _)); clear hS)
          | (go_at_call 75; (with_reducible refine (fail_w R v ak ek 5 w1 HV1.out.rd).mono ?_); rintro r w2 ⟨rfl, hm⟩; have HM := Lib.hid hm; clear hm))
        go_ret
        refine ⟨.slice none 0 0, [], ak, _, rfl, .inr ⟨rfl, k, ?_⟩, ⟨HM.out.1, HG1.out.trans HM.out.2⟩, World.ownsRow_nil _ _ _ _, HV1.out.ha⟩
        rw [Hr.out]
        dsimp only
        rw [Hst.out]
        exact ⟨hlt, by have := Hd.out; omega, rfl, rfl⟩
      · have hdn : ((d : Int) == 0) = false := by simp; omega
        have Hdl := Lib.hid (show ak < b.length by have := Hd.out; omega)
        clear h0
        go_wp2_with (first
          | (go_at_call 74; (with_reducible refine (HL.out).mono ?_); rintro r w1 ⟨rfl, hS⟩; have HV1 := Lib.hid (HV.out.same hS); have HG1 := Lib.hid (HG.out.trans (same_grown hS _)); have HO1 := Lib.hid (own_same HO.out hS); clear hS)
          | (go_at_call 43; (with_reducible refine (rnat_w R v b ak ek w1 HV1.out.rd HV1.out.bs HV1.out.ha HV1.out.hl).mono ?_); rintro r w2 ⟨x, a2, e2, hs, rfl, hm⟩; have HS := Lib.hid (show s64 b ak ek = (x, a2, e2) from hs)
             have HV2 := Lib.hid (HV1.out.moved hm (by have := s64_at (e := ek) HV1.out.ha; rw [HS.out] at this; exact this))
             have HG2 := Lib.hid (HG1.out.trans hm.2)
             have HO2 := Lib.hid (own_moved HO1.out hm.2 HlR.out)
             have HW2 := Lib.hid (show W.heap.size ≤ w2.heap.size from HG2.out.size)
             have HOa := Lib.hid (own_keeps HO2.out ((Keeps.refl w2).alloc (.cells #[.int .u64 (x : Int)] 24)))
             have HSr := Lib.hid (one_src (c := 1) (heap_alloc_new w2 (.cells #[.int .u64 (x : Int)] 24)) rfl (by simp [Value.oneCell']))
             have HWa := Lib.hid (show W.heap.size ≤ (w2.alloc (.cells #[.int .u64 (x : Int)] 24)).heap.size from Nat.le_trans HW2.out (by rw [heap_alloc_size]; omega))
             have hkn : k ≤ 100000 := by omega
             clear hm)
          | (at_builtin; go_loud (refine wpList_append_one2 rfl _ _ 33 rfl he33 HOa.out (by rfl) HSr.out (by rfl) hkn (by decide) HWa.out ?_; intro p3 c3 w3 ho hg; obtain ⟨hG3, hV3⟩ := after_app _ HG2.out HO2.out HV2.out HlR.out HlV.out Hos.out hg; have HG3 := Lib.hid hG3; have HV3 := Lib.hid hV3; clear hG3 hV3; have HO3 := Lib.hid ho; clear ho hg)))
        go_roundw
        case rel =>
          have hs1 : stN (s64 b) a1 e1 (k + 1) = (a2, e2) := by show ((s64 b) (stN (s64 b) a1 e1 k).1 (stN (s64 b) a1 e1 k).2).2 = _; rw [Hst.out]; show ((s64 b) ak ek).2 = _; rw [HS.out]
          refine ⟨k + 1, p3, c3, hlt, by go_num, rfl, ?_, ?_, HG3, ?_⟩
          · refine Lib.hid ?_
            rw [elN_succ, List.flatMap_append]
            have hx : ((s64 b) (stN (s64 b) a1 e1 k).1 (stN (s64 b) a1 e1 k).2).1 = x := by rw [Hst.out]; show ((s64 b) ak ek).1 = _; rw [HS.out]
            rw [hx]
            simp only [List.flatMap_cons, List.flatMap_nil, List.append_nil]
            exact HO3.out
          · rw [hs1]; exact HV3
          · refine Lib.hid fun j hj => ?_
            by_cases hjk : j = k
            · rw [hjk, Hst.out]; exact Hdl.out
            · exact HJ.out j (by omega)
        case measure => simp [intOf]; omega
    · have hk' : k = n := by omega
      subst hk'
      go_wp2
      go_ret
      refine ⟨_, elN (s64 b) a1 e1 k, (stN (s64 b) a1 e1 k).1, (stN (s64 b) a1 e1 k).2, rfl, .inl ?_, ⟨HV.out.rd, HG.out⟩, ?_, HV.out.ha⟩
      · rw [Hr.out]; exact ⟨rfl, rfl, HJ.out⟩
      · rw [elN_len]; exact HO.out

set_option maxRecDepth 100000 in
set_option maxHeartbeats 3200000 in
theorem taken48_w {W : World} {v : Value} {b : List UInt8} {R V : Nat} {a : Nat} {e : Int} (h : RV W v b R V a e) :
    Calls Try.prog 48 #[.pointer (some ⟨R, 0, none⟩), .func (Fn.func 49) #[] #[.pointer (some ⟨V, 0, none⟩)]] W fun r W' => ∃ sv l a' e', r = .returned sv ∧ TkRel (s32 b) b a e l a' e' ∧ Moved W W' R v a' e' ∧ W'.ownsRow W.heap.size 23 1 sv l.length (l.flatMap (fun (n : Nat) => [Value.int .u32 (n : Int)])) ∧ a' ≤ b.length := by
  have H := Lib.hid h
  have Hos := Lib.hid (show ∀ x, W.heap.size ≤ x → Off v x from fun x hx => h.bs.off hx)
  have HlR := Lib.hid h.lR
  have HlV := Lib.hid h.lV
  have Htop := Lib.hid (small_top b a e 4000)
  have Hsat := Lib.hid (small_at (e := e) (most := 4000) h.ha)
  clear h
  obtain ⟨rr, hrr⟩ : ∃ rr, Form.small b a e 4000 = rr := ⟨_, rfl⟩
  obtain ⟨n, a1, e1⟩ := rr
  have Hr := Lib.hid hrr
  rw [hrr] at Htop Hsat
  clear hrr
  have hn : n ≤ 4000 := Htop.out
  go_enter Try.func48, Try.ntmps48
  go_wp2_with (go_at_call 42; (with_reducible refine (small_z R v b a e 4000 4000 rfl W H.out.rd H.out.bs H.out.ha H.out.hl (by decide)).mono ?_); rintro r W1 ⟨n', a1', e1', hs, rfl, hm⟩
               rw [Hr.out] at hs
               cases hs
               have HM1 := Lib.hid hm
               have HV1 := Lib.hid (H.out.moved hm Hsat.out)
               clear hm)
  have HG1 := Lib.hid HM1.out.2
  go_loopw [4, 7] (fun sv iv wr => ∃ (k : Nat) (p : Option Addr) (c : Nat), k ≤ n ∧ iv = .int .u64 (k : Int) ∧ sv = .slice p k c ∧ Hid (wr.ownsRow W.heap.size 23 1 (.slice p k c) k ((elN (s32 b) a1 e1 k).flatMap (fun (n : Nat) => [Value.int .u32 (n : Int)]))) ∧ Hid (RV wr v b R V (stN (s32 b) a1 e1 k).1 (stN (s32 b) a1 e1 k).2) ∧ Hid (W.grownBy wr (some R)) ∧ Hid (∀ j, j < k → (stN (s32 b) a1 e1 j).1 < b.length)) (fun _ i _ => n - (intOf i).toNat)
  case atStart => exact ⟨0, none, 0, Nat.zero_le _, rfl, rfl, Lib.hid (World.ownsRow_nil _ _ _ _), HV1, HG1, Lib.hid (fun j hj => absurd hj (Nat.not_lt_zero _))⟩
  case round =>
    clear HV1 HG1 HM1
    obtain ⟨k, p, c, hk, rfl, rfl, HO, HV, HG, HJ⟩ := hrel
    by_cases hlt : k < n
    · obtain ⟨st, hst⟩ : ∃ st, stN (s32 b) a1 e1 k = st := ⟨_, rfl⟩
      obtain ⟨ak, ek⟩ := st
      have Hst := Lib.hid hst
      rw [hst] at HV
      clear hst
      obtain ⟨d, hd⟩ : ∃ d, b.length - ak = d := ⟨_, rfl⟩
      have Hd := Lib.hid hd
      have HL := Lib.hid (left_w R v b ak ek wr HV.out.rd HV.out.bs HV.out.ha HV.out.hl)
      rw [hd] at HL
      clear hd
      by_cases h0 : d = 0
      · subst h0
        go_wp2_with (first
          | (go_at_call 74; (with_reducible refine (HL.out).mono ?_); rintro r w1 ⟨rfl, hS⟩; have HV1 := Lib.hid (HV.out.same hS); have HG1 := Lib.hid (HG.out.trans (same_grown hS _)); clear hS)
          | (go_at_call 75; (with_reducible refine (fail_w R v ak ek 5 w1 HV1.out.rd).mono ?_); rintro r w2 ⟨rfl, hm⟩; have HM := Lib.hid hm; clear hm))
        go_ret
        refine ⟨.slice none 0 0, [], ak, _, rfl, .inr ⟨rfl, k, ?_⟩, ⟨HM.out.1, HG1.out.trans HM.out.2⟩, World.ownsRow_nil _ _ _ _, HV1.out.ha⟩
        rw [Hr.out]
        dsimp only
        rw [Hst.out]
        exact ⟨hlt, by have := Hd.out; omega, rfl, rfl⟩
      · have hdn : ((d : Int) == 0) = false := by simp; omega
        have Hdl := Lib.hid (show ak < b.length by have := Hd.out; omega)
        clear h0
        go_wp2_with (first
          | (go_at_call 74; (with_reducible refine (HL.out).mono ?_); rintro r w1 ⟨rfl, hS⟩; have HV1 := Lib.hid (HV.out.same hS); have HG1 := Lib.hid (HG.out.trans (same_grown hS _)); have HO1 := Lib.hid (own_same HO.out hS); clear hS)
          | (go_at_call 49; (with_reducible refine (acct49_w HV1.out).mono ?_); rintro r w2 ⟨rfl, hm⟩; obtain ⟨rr, hs⟩ : ∃ rr, s32 b ak ek = rr := ⟨_, rfl⟩; obtain ⟨x, a2, e2⟩ := rr; rw [hs] at hm ⊢; dsimp only at hm ⊢; have HS := Lib.hid hs
             have HV2 := Lib.hid (HV1.out.moved hm (by have := s32_at (e := ek) HV1.out.ha; rw [HS.out] at this; exact this))
             have HG2 := Lib.hid (HG1.out.trans hm.2)
             have HO2 := Lib.hid (own_moved HO1.out hm.2 HlR.out)
             have HW2 := Lib.hid (show W.heap.size ≤ w2.heap.size from HG2.out.size)
             have HOa := Lib.hid (own_keeps HO2.out ((Keeps.refl w2).alloc (.cells #[.int .u32 (x : Int)] 23)))
             have HSr := Lib.hid (one_src (c := 1) (heap_alloc_new w2 (.cells #[.int .u32 (x : Int)] 23)) rfl (by simp [Value.oneCell']))
             have HWa := Lib.hid (show W.heap.size ≤ (w2.alloc (.cells #[.int .u32 (x : Int)] 23)).heap.size from Nat.le_trans HW2.out (by rw [heap_alloc_size]; omega))
             have hkn : k ≤ 100000 := by omega
             clear hm)
          | (at_builtin; go_loud (refine wpList_append_one2 rfl _ _ 34 rfl he34 HOa.out (by rfl) HSr.out (by rfl) hkn (by decide) HWa.out ?_; intro p3 c3 w3 ho hg; obtain ⟨hG3, hV3⟩ := after_app _ HG2.out HO2.out HV2.out HlR.out HlV.out Hos.out hg; have HG3 := Lib.hid hG3; have HV3 := Lib.hid hV3; clear hG3 hV3; have HO3 := Lib.hid ho; clear ho hg)))
        go_roundw
        case rel =>
          have hs1 : stN (s32 b) a1 e1 (k + 1) = (a2, e2) := by show ((s32 b) (stN (s32 b) a1 e1 k).1 (stN (s32 b) a1 e1 k).2).2 = _; rw [Hst.out]; show ((s32 b) ak ek).2 = _; rw [HS.out]
          refine ⟨k + 1, p3, c3, hlt, by go_num, rfl, ?_, ?_, HG3, ?_⟩
          · refine Lib.hid ?_
            rw [elN_succ, List.flatMap_append]
            have hx : ((s32 b) (stN (s32 b) a1 e1 k).1 (stN (s32 b) a1 e1 k).2).1 = x := by rw [Hst.out]; show ((s32 b) ak ek).1 = _; rw [HS.out]
            rw [hx]
            simp only [List.flatMap_cons, List.flatMap_nil, List.append_nil]
            exact HO3.out
          · rw [hs1]; exact HV3
          · refine Lib.hid fun j hj => ?_
            by_cases hjk : j = k
            · rw [hjk, Hst.out]; exact Hdl.out
            · exact HJ.out j (by omega)
        case measure => simp [intOf]; omega
    · have hk' : k = n := by omega
      subst hk'
      go_wp2
      go_ret
      refine ⟨_, elN (s32 b) a1 e1 k, (stN (s32 b) a1 e1 k).1, (stN (s32 b) a1 e1 k).2, rfl, .inl ?_, ⟨HV.out.rd, HG.out⟩, ?_, HV.out.ha⟩
      · rw [Hr.out]; exact ⟨rfl, rfl, HJ.out⟩
      · rw [elN_len]; exact HO.out

set_option maxRecDepth 100000 in
set_option maxHeartbeats 3200000 in
theorem taken45_w {W : World} {v : Value} {b : List UInt8} {R V : Nat} {a : Nat} {e : Int} (h : RV W v b R V a e) :
    Calls Try.prog 45 #[.pointer (some ⟨R, 0, none⟩), .func (Fn.func 46) #[] #[.pointer (some ⟨V, 0, none⟩)]] W fun r W' => ∃ sv l a' e', r = .returned sv ∧ TkRel (sTr b) b a e l a' e' ∧ Moved W W' R v a' e' ∧ W'.ownsRow W.heap.size 62 4 sv l.length (l.flatMap (Tr.cells)) ∧ a' ≤ b.length := by
  have H := Lib.hid h
  have Hos := Lib.hid (show ∀ x, W.heap.size ≤ x → Off v x from fun x hx => h.bs.off hx)
  have HlR := Lib.hid h.lR
  have HlV := Lib.hid h.lV
  have Htop := Lib.hid (small_top b a e 4000)
  have Hsat := Lib.hid (small_at (e := e) (most := 4000) h.ha)
  clear h
  obtain ⟨rr, hrr⟩ : ∃ rr, Form.small b a e 4000 = rr := ⟨_, rfl⟩
  obtain ⟨n, a1, e1⟩ := rr
  have Hr := Lib.hid hrr
  rw [hrr] at Htop Hsat
  clear hrr
  have hn : n ≤ 4000 := Htop.out
  go_enter Try.func45, Try.ntmps45
  go_wp2_with (go_at_call 42; (with_reducible refine (small_z R v b a e 4000 4000 rfl W H.out.rd H.out.bs H.out.ha H.out.hl (by decide)).mono ?_); rintro r W1 ⟨n', a1', e1', hs, rfl, hm⟩
               rw [Hr.out] at hs
               cases hs
               have HM1 := Lib.hid hm
               have HV1 := Lib.hid (H.out.moved hm Hsat.out)
               clear hm)
  have HG1 := Lib.hid HM1.out.2
  go_loopw [4, 7] (fun sv iv wr => ∃ (k : Nat) (p : Option Addr) (c : Nat), k ≤ n ∧ iv = .int .u64 (k : Int) ∧ sv = .slice p k c ∧ Hid (wr.ownsRow W.heap.size 62 4 (.slice p k c) k ((elN (sTr b) a1 e1 k).flatMap (Tr.cells))) ∧ Hid (RV wr v b R V (stN (sTr b) a1 e1 k).1 (stN (sTr b) a1 e1 k).2) ∧ Hid (W.grownBy wr (some R)) ∧ Hid (∀ j, j < k → (stN (sTr b) a1 e1 j).1 < b.length)) (fun _ i _ => n - (intOf i).toNat)
  case atStart => exact ⟨0, none, 0, Nat.zero_le _, rfl, rfl, Lib.hid (World.ownsRow_nil _ _ _ _), HV1, HG1, Lib.hid (fun j hj => absurd hj (Nat.not_lt_zero _))⟩
  case round =>
    clear HV1 HG1 HM1
    obtain ⟨k, p, c, hk, rfl, rfl, HO, HV, HG, HJ⟩ := hrel
    by_cases hlt : k < n
    · obtain ⟨st, hst⟩ : ∃ st, stN (sTr b) a1 e1 k = st := ⟨_, rfl⟩
      obtain ⟨ak, ek⟩ := st
      have Hst := Lib.hid hst
      rw [hst] at HV
      clear hst
      obtain ⟨d, hd⟩ : ∃ d, b.length - ak = d := ⟨_, rfl⟩
      have Hd := Lib.hid hd
      have HL := Lib.hid (left_w R v b ak ek wr HV.out.rd HV.out.bs HV.out.ha HV.out.hl)
      rw [hd] at HL
      clear hd
      by_cases h0 : d = 0
      · subst h0
        go_wp2_with (first
          | (go_at_call 74; (with_reducible refine (HL.out).mono ?_); rintro r w1 ⟨rfl, hS⟩; have HV1 := Lib.hid (HV.out.same hS); have HG1 := Lib.hid (HG.out.trans (same_grown hS _)); clear hS)
          | (go_at_call 75; (with_reducible refine (fail_w R v ak ek 5 w1 HV1.out.rd).mono ?_); rintro r w2 ⟨rfl, hm⟩; have HM := Lib.hid hm; clear hm))
        go_ret
        refine ⟨.slice none 0 0, [], ak, _, rfl, .inr ⟨rfl, k, ?_⟩, ⟨HM.out.1, HG1.out.trans HM.out.2⟩, World.ownsRow_nil _ _ _ _, HV1.out.ha⟩
        rw [Hr.out]
        dsimp only
        rw [Hst.out]
        exact ⟨hlt, by have := Hd.out; omega, rfl, rfl⟩
      · have hdn : ((d : Int) == 0) = false := by simp; omega
        have Hdl := Lib.hid (show ak < b.length by have := Hd.out; omega)
        clear h0
        go_wp2_with (first
          | (go_at_call 74; (with_reducible refine (HL.out).mono ?_); rintro r w1 ⟨rfl, hS⟩; have HV1 := Lib.hid (HV.out.same hS); have HG1 := Lib.hid (HG.out.trans (same_grown hS _)); have HO1 := Lib.hid (own_same HO.out hS); clear hS)
          | (go_at_call 46; (with_reducible refine (trade46_w HV1.out).mono ?_); rintro r w2 ⟨rfl, hm⟩; obtain ⟨rr, hs⟩ : ∃ rr, sTr b ak ek = rr := ⟨_, rfl⟩; obtain ⟨⟨xp, xq, xn, xa⟩, a2, e2⟩ := rr; rw [hs] at hm ⊢; dsimp only at hm ⊢; rw [show (Tr.cells ⟨xp, xq, xn, xa⟩).toArray = #[.int .i64 xp, .int .i64 xq, .int .u64 (xn : Int), .int .u32 (xa : Int)] from rfl]; have HS := Lib.hid hs
             have HV2 := Lib.hid (HV1.out.moved hm (by have := sTr_at (e := ek) HV1.out.ha; rw [HS.out] at this; exact this))
             have HG2 := Lib.hid (HG1.out.trans hm.2)
             have HO2 := Lib.hid (own_moved HO1.out hm.2 HlR.out)
             have HW2 := Lib.hid (show W.heap.size ≤ w2.heap.size from HG2.out.size)
             have HOa := Lib.hid (own_keeps HO2.out ((Keeps.refl w2).alloc (.cells #[.int .i64 xp, .int .i64 xq, .int .u64 (xn : Int), .int .u32 (xa : Int)] 62)))
             have HSr := Lib.hid (one_src (c := 4) (heap_alloc_new w2 (.cells #[.int .i64 xp, .int .i64 xq, .int .u64 (xn : Int), .int .u32 (xa : Int)] 62)) rfl (by simp [Value.oneCell']))
             have HWa := Lib.hid (show W.heap.size ≤ (w2.alloc (.cells #[.int .i64 xp, .int .i64 xq, .int .u64 (xn : Int), .int .u32 (xa : Int)] 62)).heap.size from Nat.le_trans HW2.out (by rw [heap_alloc_size]; omega))
             have hkn : k ≤ 100000 := by omega
             clear hm)
          | (at_builtin; go_loud (refine wpList_append_one2 rfl _ _ 32 rfl he32 HOa.out (by rfl) HSr.out (by rfl) hkn (by decide) HWa.out ?_; intro p3 c3 w3 ho hg; obtain ⟨hG3, hV3⟩ := after_app _ HG2.out HO2.out HV2.out HlR.out HlV.out Hos.out hg; have HG3 := Lib.hid hG3; have HV3 := Lib.hid hV3; clear hG3 hV3; have HO3 := Lib.hid ho; clear ho hg)))
        go_roundw
        case rel =>
          have hs1 : stN (sTr b) a1 e1 (k + 1) = (a2, e2) := by show ((sTr b) (stN (sTr b) a1 e1 k).1 (stN (sTr b) a1 e1 k).2).2 = _; rw [Hst.out]; show ((sTr b) ak ek).2 = _; rw [HS.out]
          refine ⟨k + 1, p3, c3, hlt, by go_num, rfl, ?_, ?_, HG3, ?_⟩
          · refine Lib.hid ?_
            rw [elN_succ, List.flatMap_append]
            have hx : ((sTr b) (stN (sTr b) a1 e1 k).1 (stN (sTr b) a1 e1 k).2).1 = ⟨xp, xq, xn, xa⟩ := by rw [Hst.out]; show ((sTr b) ak ek).1 = _; rw [HS.out]
            rw [hx]
            simp only [List.flatMap_cons, List.flatMap_nil, List.append_nil]
            exact HO3.out
          · rw [hs1]; exact HV3
          · refine Lib.hid fun j hj => ?_
            by_cases hjk : j = k
            · rw [hjk, Hst.out]; exact Hdl.out
            · exact HJ.out j (by omega)
        case measure => simp [intOf]; omega
    · have hk' : k = n := by omega
      subst hk'
      go_wp2
      go_ret
      refine ⟨_, elN (sTr b) a1 e1 k, (stN (sTr b) a1 e1 k).1, (stN (sTr b) a1 e1 k).2, rfl, .inl ?_, ⟨HV.out.rd, HG.out⟩, ?_, HV.out.ha⟩
      · rw [Hr.out]; exact ⟨rfl, rfl, HJ.out⟩
      · rw [elN_len]; exact HO.out
end Go.Proofs.Ytoflehlkacofjaa
