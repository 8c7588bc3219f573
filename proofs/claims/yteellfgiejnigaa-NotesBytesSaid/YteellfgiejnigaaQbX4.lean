/- The document's Bytes, by kind. -/
import Derived.Test.YteellfgiejnigaaQbU8
import Derived.Test.YteellfgiejnigaaQbV1
import Derived.Test.YteellfgiejnigaaQbX3
namespace Go.Proofs.Yteellfgiejnigaa
open Go.ChangeShapes Go.WideShapes Go.ChangeAt Go.RowKit
set_option linter.unusedVariables false
theorem RdB_len {w : World} {p : Option Addr} {n c : Nat} {l : List UInt8} (h : RdB w (.slice p n c) l) : n = l.length := by obtain ⟨_, _, e, _⟩ := h; cases e; rfl
/-- append of bytes, its run. -/
theorem append29_run {w : World} {base : Nat} {v x : Value} {l m : List UInt8} (ho : OB w base 5 v l) (hx : RdB w x m) (hl : l.length + m.length ≤ 1000000) (hb : base ≤ w.heap.size) (ty : TypeId) :
    ∃ p n c w', (Builtin.append_ #[29, 29] ty #[v, x]).run Try.prog w = .ok (.slice p n c) w' ∧ OB w' base 5 (.slice p n c) (l ++ m) ∧ w.grownBy w' v.ownBlock := by
  obtain ⟨v', w', hr, h2, h3⟩ := run_append_src (P := Try.prog) (ty := ty) hel ho hx.src (by unfold maxLen; omega) (by omega) hb
  have h4 : OB w' base 5 v' (l ++ m) := by unfold OB; rw [List.map_append, List.length_append]; exact h2
  obtain ⟨p, c, rfl⟩ := h4.form
  exact ⟨p, _, c, w', hr, h4, h3⟩
theorem flag_len (y : Bool) : (Form.flag y).length = 1 := by cases y <;> rfl
theorem text_len (t : List UInt8) (h : t.length ≤ 600000) : (Form.text t).length ≤ t.length + 10 := by
  have := Form.nat_len10 (n := t.length) (by omega)
  unfold Form.text; rw [List.length_append]; omega
theorem formN_1 (t r i a c : Nat) (y : Bool) (L : List Ent) (D : List UInt8) : formN ⟨1, t, r, i, a, c, y, L, D⟩ = Form.nat 1 ++ Form.nat t ++ Form.nat r ++ Form.nat i ++ Form.nat a := by
  unfold formN natsN
  simp only [List.flatMap_cons, List.flatMap_nil]
  rw [show hasR 1 = true from rfl, show hasI 1 = true from rfl, show hasA 1 = true from rfl, show hasC 1 = false from rfl, show hasY 1 = false from rfl]
  rw [show hasL 1 = false from rfl]
  rw [show hasD 1 = false from rfl]
  simp [List.append_assoc]
set_option maxRecDepth 100000 in
set_option maxHeartbeats 12800000 in
theorem rbytes_1_w (t r i a c : Nat) (y : Bool) (pl pd : Option Addr) (cl cd : Nat) (L : List Ent) (D : List UInt8) (S : Foot) (w : World) (h : NtA w S (.slice pl L.length cl) (.slice pd D.length cd) ⟨1, t, r, i, a, c, y, L, D⟩) (hL : L.length ≤ 16) (hLd : ∀ e ∈ L, e.2.length ≤ 3000) (hDl : D.length ≤ 524288) :
    Calls Try.prog 48 #[.agg #[.int .u8 1, .int .u64 (t : Int), .int .u64 (r : Int), .int .u64 (i : Int), .int .u64 (a : Int), .int .u64 (c : Int), .bool y, .slice pl L.length cl, .slice pd D.length cd]] w fun e w' => (∃ pp nn kk, e = .returned (.slice pp nn kk) ∧ OB w' w.heap.size 5 (.slice pp nn kk) (Form.nat 1 ++ Form.nat t ++ Form.nat r ++ Form.nat i ++ Form.nat a)) ∧ Below w.heap.size w w' := by
  have ht : t < 2 ^ 64 := h.term
  have hr : r < 2 ^ 64 := h.round
  have hi : i < 2 ^ 64 := h.index
  have ha : a < 2 ^ 64 := h.at_
  have hc : c < 2 ^ 64 := h.commit
  have hB0 := (Below.refl w.heap.size w).alloc (Nat.le_refl _) (.cells #[.int .u8 1, .int .u64 (t : Int), .int .u64 (r : Int), .int .u64 (i : Int), .int .u64 (a : Int), .int .u64 (c : Int), .bool y, .slice pl L.length cl, .slice pd D.length cd] 31)
  have HB0 := Lib.hid hB0
  have hN0 := NcAt.new w #[.int .u8 1, .int .u64 (t : Int), .int .u64 (r : Int), .int .u64 (i : Int), .int .u64 (a : Int), .int .u64 (c : Int), .bool y, .slice pl L.length cl, .slice pd D.length cd]
  have H := Lib.hid (h.mono (S' := fun b => b < w.heap.size) fun b hb _ => hb)
  have HLd := Lib.hid hLd
  have e18 : IntKind.u64.wrap (1 : Int) = 1 := by decide
  have eL : IntKind.u64.wrap (L.length : Int) = (L.length : Int) := IntWalk.u64_in _ (by omega)
  have lt := Form.nat_len10 ht
  have lr := Form.nat_len10 hr
  have li := Form.nat_len10 hi
  have la := Form.nat_len10 ha
  have lc := Form.nat_len10 hc
  have lL := Form.nat_len10 (n := L.length) (by omega)
  have lk := Form.nat_len10 (n := 1) (by decide)
  have ly := flag_len y
  have lD := text_len D (by omega)
  have HLen := Lib.hid (And.intro lk (And.intro lt (And.intro lr (And.intro li (And.intro la (And.intro lc (And.intro lL (And.intro ly lD))))))))
  generalize hW : w.alloc (.cells #[.int .u8 1, .int .u64 (t : Int), .int .u64 (r : Int), .int .u64 (i : Int), .int .u64 (a : Int), .int .u64 (c : Int), .bool y, .slice pl L.length cl, .slice pd D.length cd] 31) = w0 at *
  have HN := Lib.hid hN0
  have hsz : w.heap.size < w0.heap.size := hN0.lt
  have HX := Lib.hid (fun (W : World) (f : Nat) (hk : Keeps w0 W) => (show W.cell? ⟨w.heap.size, f, none⟩ = (#[.int .u8 1, .int .u64 (t : Int), .int .u64 (r : Int), .int .u64 (i : Int), .int .u64 (a : Int), .int .u64 (c : Int), .bool y, .slice pl L.length cl, .slice pd D.length cd] : Array Value)[f]? from cell_of_row _ _ _ _ _ _ (HN.out.keeps hk)))
  clear hB0 hN0 h hLd lt lr li la lc lL lk ly lD
  go_enter Try.func48, Try.ntmps48
  go_wp2
  clear hW
  apply RegT.wp_region_T rfl 142 9 rfl (by kernel_rfl) (RegT.Under w0.heap.size) (RegT.Under.refl _) (RegT.Under.trans _)
  · apply RegT.T_pure rfl rfl rfl
    · intro W hR; clear hR; go_simp; rfl
    simp only [List.set_cons_succ, List.set_cons_zero, Nat.reduceAdd]
    apply RegT.T_pure (v := .int .u8 1) rfl rfl rfl
    · intro W hR
      have hc := HX.out W 0 ((Keeps.refl w0).drew.trans (hR (Nat.le_refl _)).1.block)
      clear hR
      go_simp
    simp only [List.set_cons_succ, List.set_cons_zero, Nat.reduceAdd]
    apply RegT.T_pure (v := .int .u64 1) rfl rfl rfl
    · intro W hR; clear hR; go_simp
    simp only [List.set_cons_succ, List.set_cons_zero, Nat.reduceAdd]
    apply RegT.T_predC rfl rfl rfl 7 (AccP w0.heap.size (Form.nat 1)) (RegT.Under.grow _) (fun y x z hR h => h.keeps hR.block)
    · intro W hR hf
      have hsz := (hR (Nat.le_refl _)).2
      have Hc := Lib.hid (refnat_w 1 W (by decide))
      clear hR hf
      go_simp
      exact RegT.OpOK_enter Hc.out (fun e w' ⟨p, k, c, he, ho, hk, hB⟩ => ⟨_, he, ⟨p, k, c, rfl, hk, OB.lower ho hsz⟩, hB⟩)
    intro v3
    simp only [List.set_cons_succ, List.set_cons_zero, Nat.reduceAdd]
    apply RegT.T_pure rfl rfl rfl
    · intro W hR; clear hR; go_simp; rfl
    simp only [List.set_cons_succ, List.set_cons_zero, Nat.reduceAdd]
    apply RegT.T_pure (v := .int .u64 (t : Int)) rfl rfl rfl
    · intro W hR
      have hc := HX.out W 1 ((Keeps.refl w0).drew.trans (hR (Nat.le_refl _)).1.block)
      clear hR
      go_simp
    simp only [List.set_cons_succ, List.set_cons_zero, Nat.reduceAdd]
    apply RegT.T_predC rfl rfl rfl 7 (AccP w0.heap.size (Form.nat t)) (RegT.Under.grow _) (fun y x z hR h => h.keeps hR.block)
    · intro W hR hf
      have hsz := (hR (Nat.le_refl _)).2
      have Hc := Lib.hid (refnat_w t W ht)
      clear hR hf
      go_simp
      exact RegT.OpOK_enter Hc.out (fun e w' ⟨p, k, c, he, ho, hk, hB⟩ => ⟨_, he, ⟨p, k, c, rfl, hk, OB.lower ho hsz⟩, hB⟩)
    intro v6
    simp only [List.set_cons_succ, List.set_cons_zero, Nat.reduceAdd]
    apply RegT.T_write rfl rfl rfl none (AccP w0.heap.size (Form.nat 1 ++ Form.nat t)) (fun y x z hR h => h.keeps hR.block)
    · intro W hR hf
      have hsz := (hR (Nat.le_refl _)).2
      have h3 : AccP w0.heap.size (Form.nat 1) v3 W := hf _ (.tail _ (.head _)) (by kernel_rfl) (.inr rfl)
      have h6 : AccP w0.heap.size (Form.nat t) v6 W := hf _ (.head _) (by kernel_rfl) (.inr rfl)
      obtain ⟨p3, n3, c3, rfl, hn3, ho3⟩ := h3
      obtain ⟨p6, n6, c6, rfl, hn6, ho6⟩ := h6
      obtain ⟨p, n, c, w', hr', h4, h5⟩ := append29_run ho3 ho6.rd (by have := HLen.out; omega) hsz 29
      exact append_ok (.tmp 8) (.tmp 11) rfl rfl rfl hr' ⟨⟨p, n, c, rfl, RdB_len h4.rd, h4⟩, fun _ => ⟨below_own ho3 h5 hsz, Nat.le_trans hsz h5.size⟩⟩
    intro v7
    simp only [List.set_cons_succ, List.set_cons_zero, Nat.reduceAdd]
    apply RegT.T_pure rfl rfl rfl
    · intro W hR; clear hR; go_simp; rfl
    simp only [List.set_cons_succ, List.set_cons_zero, Nat.reduceAdd]
    refine RegT.T_end rfl (fun W0 hR hf => ?_)
    have hy : AccP w0.heap.size (Form.nat 1 ++ Form.nat t) v7 W0 := hf _ (.head _) (.inl rfl)
    obtain ⟨p0, n0, c0, rfl, hn0, ho0⟩ := hy
    have HO0 := Lib.hid ho0
    have HK0 := Lib.hid (show Below w0.heap.size w0 W0 ∧ Below w.heap.size w W0 ∧ w0.heap.size ≤ W0.heap.size from ⟨(Below.refl w0.heap.size w0).drew.trans (hR (Nat.le_refl _)).1, HB0.out.trans (((Below.refl w0.heap.size w0).drew.trans (hR (Nat.le_refl _)).1).mono (Nat.le_of_lt hsz)), (hR (Nat.le_refl _)).2⟩)
    clear hR hf ho0 hn0
    have xk : W0.cell? ⟨w.heap.size, 0, none⟩ = some (.int .u8 1) := HX.out W0 0 HK0.out.1.block
    have x0 : W0.cell? ⟨w.heap.size, 2, none⟩ = some (.int .u64 (r : Int)) := HX.out W0 2 HK0.out.1.block
    go_wp2_with (first
      | (go_at_call 95; go_loud ((with_reducible refine (refnat_w r _ hr).mono ?_); rintro e V0 ⟨q0, k0, d0, rfl, hq, hkq, hB⟩; have HO0b := Lib.hid (HO0.out.keeps hB.block); have HQ0 := Lib.hid hq.rd; have HK0b := Lib.hid (And.intro (HK0.out.1.trans (hB.mono HK0.out.2.2)) (And.intro (HK0.out.2.1.trans (hB.mono HK0.out.2.1.size)) (Nat.le_trans HK0.out.2.2 hB.size))); clear hq hkq hB HO0 HK0))
      | (at_builtin; go_loud (refine wpList_append_bytes rfl (.tmp 17) (.tmp 20) 29 rfl hel rfl HO0b.out rfl HQ0.out (by have := HLen.out; simp only [List.length_append]; omega) HK0b.out.2.2 ?_; intro p1 n1 c1 W1 hn ho hg; have HO1 := Lib.hid ho; have HK1 := Lib.hid (And.intro (HK0b.out.1.trans (below_own HO0b.out hg HK0b.out.2.2)) (And.intro (HK0b.out.2.1.trans ((below_own HO0b.out hg HK0b.out.2.2).mono (Nat.le_of_lt hsz))) (Nat.le_trans HK0b.out.2.2 hg.size))); have x1 : W1.cell? ⟨w.heap.size, 3, none⟩ = some (.int .u64 (i : Int)) := HX.out W1 3 HK1.out.1.block; clear hn ho hg HO0b HK0b HQ0))
      | (go_at_call 95; go_loud ((with_reducible refine (refnat_w i _ hi).mono ?_); rintro e V1 ⟨q1, k1, d1, rfl, hq, hkq, hB⟩; have HO1b := Lib.hid (HO1.out.keeps hB.block); have HQ1 := Lib.hid hq.rd; have HK1b := Lib.hid (And.intro (HK1.out.1.trans (hB.mono HK1.out.2.2)) (And.intro (HK1.out.2.1.trans (hB.mono HK1.out.2.1.size)) (Nat.le_trans HK1.out.2.2 hB.size))); clear hq hkq hB HO1 HK1))
      | (at_builtin; go_loud (refine wpList_append_bytes rfl (.tmp 22) (.tmp 25) 29 rfl hel rfl HO1b.out rfl HQ1.out (by have := HLen.out; simp only [List.length_append]; omega) HK1b.out.2.2 ?_; intro p2 n2 c2 W2 hn ho hg; have HO2 := Lib.hid ho; have HK2 := Lib.hid (And.intro (HK1b.out.1.trans (below_own HO1b.out hg HK1b.out.2.2)) (And.intro (HK1b.out.2.1.trans ((below_own HO1b.out hg HK1b.out.2.2).mono (Nat.le_of_lt hsz))) (Nat.le_trans HK1b.out.2.2 hg.size))); have x2 : W2.cell? ⟨w.heap.size, 4, none⟩ = some (.int .u64 (a : Int)) := HX.out W2 4 HK2.out.1.block; clear hn ho hg HO1b HK1b HQ1))
      | (go_at_call 95; go_loud ((with_reducible refine (refnat_w a _ ha).mono ?_); rintro e V2 ⟨q2, k2, d2, rfl, hq, hkq, hB⟩; have HO2b := Lib.hid (HO2.out.keeps hB.block); have HQ2 := Lib.hid hq.rd; have HK2b := Lib.hid (And.intro (HK2.out.1.trans (hB.mono HK2.out.2.2)) (And.intro (HK2.out.2.1.trans (hB.mono HK2.out.2.1.size)) (Nat.le_trans HK2.out.2.2 hB.size))); clear hq hkq hB HO2 HK2))
      | (at_builtin; go_loud (refine wpList_append_bytes rfl (.tmp 27) (.tmp 30) 29 rfl hel rfl HO2b.out rfl HQ2.out (by have := HLen.out; simp only [List.length_append]; omega) HK2b.out.2.2 ?_; intro p3 n3 c3 W3 hn ho hg; have HO3 := Lib.hid ho; have HK3 := Lib.hid (And.intro (HK2b.out.1.trans (below_own HO2b.out hg HK2b.out.2.2)) (And.intro (HK2b.out.2.1.trans ((below_own HO2b.out hg HK2b.out.2.2).mono (Nat.le_of_lt hsz))) (Nat.le_trans HK2b.out.2.2 hg.size))); clear hn ho hg HO2b HK2b HQ2)))
    go_ret
    exact ⟨⟨_, _, _, rfl, OB.lower HO3.out (Nat.le_of_lt hsz)⟩, HK3.out.2.1⟩
  · rfl
  · kernel_rfl
theorem formN_2 (t r i a c : Nat) (y : Bool) (L : List Ent) (D : List UInt8) : formN ⟨2, t, r, i, a, c, y, L, D⟩ = Form.nat 2 ++ Form.nat t ++ Form.nat r ++ Form.flag y := by
  unfold formN natsN
  simp only [List.flatMap_cons, List.flatMap_nil]
  rw [show hasR 2 = true from rfl, show hasI 2 = false from rfl, show hasA 2 = false from rfl, show hasC 2 = false from rfl, show hasY 2 = true from rfl]
  simp [List.append_assoc]
set_option maxRecDepth 100000 in
set_option maxHeartbeats 12800000 in
theorem rbytes_2_w (t r i a c : Nat) (y : Bool) (pl pd : Option Addr) (cl cd : Nat) (L : List Ent) (D : List UInt8) (S : Foot) (w : World) (h : NtA w S (.slice pl L.length cl) (.slice pd D.length cd) ⟨2, t, r, i, a, c, y, L, D⟩) (hL : L.length ≤ 16) (hLd : ∀ e ∈ L, e.2.length ≤ 3000) (hDl : D.length ≤ 524288) :
    Calls Try.prog 48 #[.agg #[.int .u8 2, .int .u64 (t : Int), .int .u64 (r : Int), .int .u64 (i : Int), .int .u64 (a : Int), .int .u64 (c : Int), .bool y, .slice pl L.length cl, .slice pd D.length cd]] w fun e w' => (∃ pp nn kk, e = .returned (.slice pp nn kk) ∧ OB w' w.heap.size 5 (.slice pp nn kk) (Form.nat 2 ++ Form.nat t ++ Form.nat r ++ Form.flag y)) ∧ Below w.heap.size w w' := by
  have ht : t < 2 ^ 64 := h.term
  have hr : r < 2 ^ 64 := h.round
  have hi : i < 2 ^ 64 := h.index
  have ha : a < 2 ^ 64 := h.at_
  have hc : c < 2 ^ 64 := h.commit
  have hB0 := (Below.refl w.heap.size w).alloc (Nat.le_refl _) (.cells #[.int .u8 2, .int .u64 (t : Int), .int .u64 (r : Int), .int .u64 (i : Int), .int .u64 (a : Int), .int .u64 (c : Int), .bool y, .slice pl L.length cl, .slice pd D.length cd] 31)
  have HB0 := Lib.hid hB0
  have hN0 := NcAt.new w #[.int .u8 2, .int .u64 (t : Int), .int .u64 (r : Int), .int .u64 (i : Int), .int .u64 (a : Int), .int .u64 (c : Int), .bool y, .slice pl L.length cl, .slice pd D.length cd]
  have H := Lib.hid (h.mono (S' := fun b => b < w.heap.size) fun b hb _ => hb)
  have HLd := Lib.hid hLd
  have e18 : IntKind.u64.wrap (2 : Int) = 2 := by decide
  have eL : IntKind.u64.wrap (L.length : Int) = (L.length : Int) := IntWalk.u64_in _ (by omega)
  have lt := Form.nat_len10 ht
  have lr := Form.nat_len10 hr
  have li := Form.nat_len10 hi
  have la := Form.nat_len10 ha
  have lc := Form.nat_len10 hc
  have lL := Form.nat_len10 (n := L.length) (by omega)
  have lk := Form.nat_len10 (n := 2) (by decide)
  have ly := flag_len y
  have lD := text_len D (by omega)
  have HLen := Lib.hid (And.intro lk (And.intro lt (And.intro lr (And.intro li (And.intro la (And.intro lc (And.intro lL (And.intro ly lD))))))))
  generalize hW : w.alloc (.cells #[.int .u8 2, .int .u64 (t : Int), .int .u64 (r : Int), .int .u64 (i : Int), .int .u64 (a : Int), .int .u64 (c : Int), .bool y, .slice pl L.length cl, .slice pd D.length cd] 31) = w0 at *
  have HN := Lib.hid hN0
  have hsz : w.heap.size < w0.heap.size := hN0.lt
  have HX := Lib.hid (fun (W : World) (f : Nat) (hk : Keeps w0 W) => (show W.cell? ⟨w.heap.size, f, none⟩ = (#[.int .u8 2, .int .u64 (t : Int), .int .u64 (r : Int), .int .u64 (i : Int), .int .u64 (a : Int), .int .u64 (c : Int), .bool y, .slice pl L.length cl, .slice pd D.length cd] : Array Value)[f]? from cell_of_row _ _ _ _ _ _ (HN.out.keeps hk)))
  clear hB0 hN0 h hLd lt lr li la lc lL lk ly lD
  go_enter Try.func48, Try.ntmps48
  go_wp2
  clear hW
  apply RegT.wp_region_T rfl 142 9 rfl (by kernel_rfl) (RegT.Under w0.heap.size) (RegT.Under.refl _) (RegT.Under.trans _)
  · apply RegT.T_pure rfl rfl rfl
    · intro W hR; clear hR; go_simp; rfl
    simp only [List.set_cons_succ, List.set_cons_zero, Nat.reduceAdd]
    apply RegT.T_pure (v := .int .u8 2) rfl rfl rfl
    · intro W hR
      have hc := HX.out W 0 ((Keeps.refl w0).drew.trans (hR (Nat.le_refl _)).1.block)
      clear hR
      go_simp
    simp only [List.set_cons_succ, List.set_cons_zero, Nat.reduceAdd]
    apply RegT.T_pure (v := .int .u64 2) rfl rfl rfl
    · intro W hR; clear hR; go_simp
    simp only [List.set_cons_succ, List.set_cons_zero, Nat.reduceAdd]
    apply RegT.T_predC rfl rfl rfl 7 (AccP w0.heap.size (Form.nat 2)) (RegT.Under.grow _) (fun y x z hR h => h.keeps hR.block)
    · intro W hR hf
      have hsz := (hR (Nat.le_refl _)).2
      have Hc := Lib.hid (refnat_w 2 W (by decide))
      clear hR hf
      go_simp
      exact RegT.OpOK_enter Hc.out (fun e w' ⟨p, k, c, he, ho, hk, hB⟩ => ⟨_, he, ⟨p, k, c, rfl, hk, OB.lower ho hsz⟩, hB⟩)
    intro v3
    simp only [List.set_cons_succ, List.set_cons_zero, Nat.reduceAdd]
    apply RegT.T_pure rfl rfl rfl
    · intro W hR; clear hR; go_simp; rfl
    simp only [List.set_cons_succ, List.set_cons_zero, Nat.reduceAdd]
    apply RegT.T_pure (v := .int .u64 (t : Int)) rfl rfl rfl
    · intro W hR
      have hc := HX.out W 1 ((Keeps.refl w0).drew.trans (hR (Nat.le_refl _)).1.block)
      clear hR
      go_simp
    simp only [List.set_cons_succ, List.set_cons_zero, Nat.reduceAdd]
    apply RegT.T_predC rfl rfl rfl 7 (AccP w0.heap.size (Form.nat t)) (RegT.Under.grow _) (fun y x z hR h => h.keeps hR.block)
    · intro W hR hf
      have hsz := (hR (Nat.le_refl _)).2
      have Hc := Lib.hid (refnat_w t W ht)
      clear hR hf
      go_simp
      exact RegT.OpOK_enter Hc.out (fun e w' ⟨p, k, c, he, ho, hk, hB⟩ => ⟨_, he, ⟨p, k, c, rfl, hk, OB.lower ho hsz⟩, hB⟩)
    intro v6
    simp only [List.set_cons_succ, List.set_cons_zero, Nat.reduceAdd]
    apply RegT.T_write rfl rfl rfl none (AccP w0.heap.size (Form.nat 2 ++ Form.nat t)) (fun y x z hR h => h.keeps hR.block)
    · intro W hR hf
      have hsz := (hR (Nat.le_refl _)).2
      have h3 : AccP w0.heap.size (Form.nat 2) v3 W := hf _ (.tail _ (.head _)) (by kernel_rfl) (.inr rfl)
      have h6 : AccP w0.heap.size (Form.nat t) v6 W := hf _ (.head _) (by kernel_rfl) (.inr rfl)
      obtain ⟨p3, n3, c3, rfl, hn3, ho3⟩ := h3
      obtain ⟨p6, n6, c6, rfl, hn6, ho6⟩ := h6
      obtain ⟨p, n, c, w', hr', h4, h5⟩ := append29_run ho3 ho6.rd (by have := HLen.out; omega) hsz 29
      exact append_ok (.tmp 8) (.tmp 11) rfl rfl rfl hr' ⟨⟨p, n, c, rfl, RdB_len h4.rd, h4⟩, fun _ => ⟨below_own ho3 h5 hsz, Nat.le_trans hsz h5.size⟩⟩
    intro v7
    simp only [List.set_cons_succ, List.set_cons_zero, Nat.reduceAdd]
    apply RegT.T_pure rfl rfl rfl
    · intro W hR; clear hR; go_simp; rfl
    simp only [List.set_cons_succ, List.set_cons_zero, Nat.reduceAdd]
    refine RegT.T_end rfl (fun W0 hR hf => ?_)
    have hy : AccP w0.heap.size (Form.nat 2 ++ Form.nat t) v7 W0 := hf _ (.head _) (.inl rfl)
    obtain ⟨p0, n0, c0, rfl, hn0, ho0⟩ := hy
    have HO0 := Lib.hid ho0
    have HK0 := Lib.hid (show Below w0.heap.size w0 W0 ∧ Below w.heap.size w W0 ∧ w0.heap.size ≤ W0.heap.size from ⟨(Below.refl w0.heap.size w0).drew.trans (hR (Nat.le_refl _)).1, HB0.out.trans (((Below.refl w0.heap.size w0).drew.trans (hR (Nat.le_refl _)).1).mono (Nat.le_of_lt hsz)), (hR (Nat.le_refl _)).2⟩)
    clear hR hf ho0 hn0
    have xk : W0.cell? ⟨w.heap.size, 0, none⟩ = some (.int .u8 2) := HX.out W0 0 HK0.out.1.block
    have x0 : W0.cell? ⟨w.heap.size, 2, none⟩ = some (.int .u64 (r : Int)) := HX.out W0 2 HK0.out.1.block
    go_wp2_with (first
      | (go_at_call 95; go_loud ((with_reducible refine (refnat_w r _ hr).mono ?_); rintro e V0 ⟨q0, k0, d0, rfl, hq, hkq, hB⟩; have HO0b := Lib.hid (HO0.out.keeps hB.block); have HQ0 := Lib.hid hq.rd; have HK0b := Lib.hid (And.intro (HK0.out.1.trans (hB.mono HK0.out.2.2)) (And.intro (HK0.out.2.1.trans (hB.mono HK0.out.2.1.size)) (Nat.le_trans HK0.out.2.2 hB.size))); clear hq hkq hB HO0 HK0))
      | (at_builtin; go_loud (refine wpList_append_bytes rfl (.tmp 34) (.tmp 37) 29 rfl hel rfl HO0b.out rfl HQ0.out (by have := HLen.out; simp only [List.length_append]; omega) HK0b.out.2.2 ?_; intro p1 n1 c1 W1 hn ho hg; have HO1 := Lib.hid ho; have HK1 := Lib.hid (And.intro (HK0b.out.1.trans (below_own HO0b.out hg HK0b.out.2.2)) (And.intro (HK0b.out.2.1.trans ((below_own HO0b.out hg HK0b.out.2.2).mono (Nat.le_of_lt hsz))) (Nat.le_trans HK0b.out.2.2 hg.size))); have x1 : W1.cell? ⟨w.heap.size, 6, none⟩ = some (.bool y) := HX.out W1 6 HK1.out.1.block; clear hn ho hg HO0b HK0b HQ0))
      | (go_at_call 96; go_loud ((with_reducible refine (refflag_w y _).mono ?_); rintro e V1 ⟨q1, k1, d1, rfl, hq, hkq, hB⟩; have HO1b := Lib.hid (HO1.out.keeps hB.block); have HQ1 := Lib.hid hq.rd; have HK1b := Lib.hid (And.intro (HK1.out.1.trans (hB.mono HK1.out.2.2)) (And.intro (HK1.out.2.1.trans (hB.mono HK1.out.2.1.size)) (Nat.le_trans HK1.out.2.2 hB.size))); clear hq hkq hB HO1 HK1))
      | (at_builtin; go_loud (refine wpList_append_bytes rfl (.tmp 39) (.tmp 42) 29 rfl hel rfl HO1b.out rfl HQ1.out (by have := HLen.out; simp only [List.length_append]; omega) HK1b.out.2.2 ?_; intro p2 n2 c2 W2 hn ho hg; have HO2 := Lib.hid ho; have HK2 := Lib.hid (And.intro (HK1b.out.1.trans (below_own HO1b.out hg HK1b.out.2.2)) (And.intro (HK1b.out.2.1.trans ((below_own HO1b.out hg HK1b.out.2.2).mono (Nat.le_of_lt hsz))) (Nat.le_trans HK1b.out.2.2 hg.size))); clear hn ho hg HO1b HK1b HQ1)))
    go_ret
    exact ⟨⟨_, _, _, rfl, OB.lower HO2.out (Nat.le_of_lt hsz)⟩, HK2.out.2.1⟩
  · rfl
  · kernel_rfl
theorem formN_3 (t r i a c : Nat) (y : Bool) (L : List Ent) (D : List UInt8) : formN ⟨3, t, r, i, a, c, y, L, D⟩ = Form.nat 3 ++ Form.nat t ++ Form.nat i ++ Form.nat a := by
  unfold formN natsN
  simp only [List.flatMap_cons, List.flatMap_nil]
  rw [show hasR 3 = false from rfl, show hasI 3 = true from rfl, show hasA 3 = true from rfl, show hasC 3 = false from rfl, show hasY 3 = false from rfl]
  rw [show hasL 3 = false from rfl]
  rw [show hasD 3 = false from rfl]
  simp [List.append_assoc]
set_option maxRecDepth 100000 in
set_option maxHeartbeats 12800000 in
theorem rbytes_3_w (t r i a c : Nat) (y : Bool) (pl pd : Option Addr) (cl cd : Nat) (L : List Ent) (D : List UInt8) (S : Foot) (w : World) (h : NtA w S (.slice pl L.length cl) (.slice pd D.length cd) ⟨3, t, r, i, a, c, y, L, D⟩) (hL : L.length ≤ 16) (hLd : ∀ e ∈ L, e.2.length ≤ 3000) (hDl : D.length ≤ 524288) :
    Calls Try.prog 48 #[.agg #[.int .u8 3, .int .u64 (t : Int), .int .u64 (r : Int), .int .u64 (i : Int), .int .u64 (a : Int), .int .u64 (c : Int), .bool y, .slice pl L.length cl, .slice pd D.length cd]] w fun e w' => (∃ pp nn kk, e = .returned (.slice pp nn kk) ∧ OB w' w.heap.size 5 (.slice pp nn kk) (Form.nat 3 ++ Form.nat t ++ Form.nat i ++ Form.nat a)) ∧ Below w.heap.size w w' := by
  have ht : t < 2 ^ 64 := h.term
  have hr : r < 2 ^ 64 := h.round
  have hi : i < 2 ^ 64 := h.index
  have ha : a < 2 ^ 64 := h.at_
  have hc : c < 2 ^ 64 := h.commit
  have hB0 := (Below.refl w.heap.size w).alloc (Nat.le_refl _) (.cells #[.int .u8 3, .int .u64 (t : Int), .int .u64 (r : Int), .int .u64 (i : Int), .int .u64 (a : Int), .int .u64 (c : Int), .bool y, .slice pl L.length cl, .slice pd D.length cd] 31)
  have HB0 := Lib.hid hB0
  have hN0 := NcAt.new w #[.int .u8 3, .int .u64 (t : Int), .int .u64 (r : Int), .int .u64 (i : Int), .int .u64 (a : Int), .int .u64 (c : Int), .bool y, .slice pl L.length cl, .slice pd D.length cd]
  have H := Lib.hid (h.mono (S' := fun b => b < w.heap.size) fun b hb _ => hb)
  have HLd := Lib.hid hLd
  have e18 : IntKind.u64.wrap (3 : Int) = 3 := by decide
  have eL : IntKind.u64.wrap (L.length : Int) = (L.length : Int) := IntWalk.u64_in _ (by omega)
  have lt := Form.nat_len10 ht
  have lr := Form.nat_len10 hr
  have li := Form.nat_len10 hi
  have la := Form.nat_len10 ha
  have lc := Form.nat_len10 hc
  have lL := Form.nat_len10 (n := L.length) (by omega)
  have lk := Form.nat_len10 (n := 3) (by decide)
  have ly := flag_len y
  have lD := text_len D (by omega)
  have HLen := Lib.hid (And.intro lk (And.intro lt (And.intro lr (And.intro li (And.intro la (And.intro lc (And.intro lL (And.intro ly lD))))))))
  generalize hW : w.alloc (.cells #[.int .u8 3, .int .u64 (t : Int), .int .u64 (r : Int), .int .u64 (i : Int), .int .u64 (a : Int), .int .u64 (c : Int), .bool y, .slice pl L.length cl, .slice pd D.length cd] 31) = w0 at *
  have HN := Lib.hid hN0
  have hsz : w.heap.size < w0.heap.size := hN0.lt
  have HX := Lib.hid (fun (W : World) (f : Nat) (hk : Keeps w0 W) => (show W.cell? ⟨w.heap.size, f, none⟩ = (#[.int .u8 3, .int .u64 (t : Int), .int .u64 (r : Int), .int .u64 (i : Int), .int .u64 (a : Int), .int .u64 (c : Int), .bool y, .slice pl L.length cl, .slice pd D.length cd] : Array Value)[f]? from cell_of_row _ _ _ _ _ _ (HN.out.keeps hk)))
  clear hB0 hN0 h hLd lt lr li la lc lL lk ly lD
  go_enter Try.func48, Try.ntmps48
  go_wp2
  clear hW
  apply RegT.wp_region_T rfl 142 9 rfl (by kernel_rfl) (RegT.Under w0.heap.size) (RegT.Under.refl _) (RegT.Under.trans _)
  · apply RegT.T_pure rfl rfl rfl
    · intro W hR; clear hR; go_simp; rfl
    simp only [List.set_cons_succ, List.set_cons_zero, Nat.reduceAdd]
    apply RegT.T_pure (v := .int .u8 3) rfl rfl rfl
    · intro W hR
      have hc := HX.out W 0 ((Keeps.refl w0).drew.trans (hR (Nat.le_refl _)).1.block)
      clear hR
      go_simp
    simp only [List.set_cons_succ, List.set_cons_zero, Nat.reduceAdd]
    apply RegT.T_pure (v := .int .u64 3) rfl rfl rfl
    · intro W hR; clear hR; go_simp
    simp only [List.set_cons_succ, List.set_cons_zero, Nat.reduceAdd]
    apply RegT.T_predC rfl rfl rfl 7 (AccP w0.heap.size (Form.nat 3)) (RegT.Under.grow _) (fun y x z hR h => h.keeps hR.block)
    · intro W hR hf
      have hsz := (hR (Nat.le_refl _)).2
      have Hc := Lib.hid (refnat_w 3 W (by decide))
      clear hR hf
      go_simp
      exact RegT.OpOK_enter Hc.out (fun e w' ⟨p, k, c, he, ho, hk, hB⟩ => ⟨_, he, ⟨p, k, c, rfl, hk, OB.lower ho hsz⟩, hB⟩)
    intro v3
    simp only [List.set_cons_succ, List.set_cons_zero, Nat.reduceAdd]
    apply RegT.T_pure rfl rfl rfl
    · intro W hR; clear hR; go_simp; rfl
    simp only [List.set_cons_succ, List.set_cons_zero, Nat.reduceAdd]
    apply RegT.T_pure (v := .int .u64 (t : Int)) rfl rfl rfl
    · intro W hR
      have hc := HX.out W 1 ((Keeps.refl w0).drew.trans (hR (Nat.le_refl _)).1.block)
      clear hR
      go_simp
    simp only [List.set_cons_succ, List.set_cons_zero, Nat.reduceAdd]
    apply RegT.T_predC rfl rfl rfl 7 (AccP w0.heap.size (Form.nat t)) (RegT.Under.grow _) (fun y x z hR h => h.keeps hR.block)
    · intro W hR hf
      have hsz := (hR (Nat.le_refl _)).2
      have Hc := Lib.hid (refnat_w t W ht)
      clear hR hf
      go_simp
      exact RegT.OpOK_enter Hc.out (fun e w' ⟨p, k, c, he, ho, hk, hB⟩ => ⟨_, he, ⟨p, k, c, rfl, hk, OB.lower ho hsz⟩, hB⟩)
    intro v6
    simp only [List.set_cons_succ, List.set_cons_zero, Nat.reduceAdd]
    apply RegT.T_write rfl rfl rfl none (AccP w0.heap.size (Form.nat 3 ++ Form.nat t)) (fun y x z hR h => h.keeps hR.block)
    · intro W hR hf
      have hsz := (hR (Nat.le_refl _)).2
      have h3 : AccP w0.heap.size (Form.nat 3) v3 W := hf _ (.tail _ (.head _)) (by kernel_rfl) (.inr rfl)
      have h6 : AccP w0.heap.size (Form.nat t) v6 W := hf _ (.head _) (by kernel_rfl) (.inr rfl)
      obtain ⟨p3, n3, c3, rfl, hn3, ho3⟩ := h3
      obtain ⟨p6, n6, c6, rfl, hn6, ho6⟩ := h6
      obtain ⟨p, n, c, w', hr', h4, h5⟩ := append29_run ho3 ho6.rd (by have := HLen.out; omega) hsz 29
      exact append_ok (.tmp 8) (.tmp 11) rfl rfl rfl hr' ⟨⟨p, n, c, rfl, RdB_len h4.rd, h4⟩, fun _ => ⟨below_own ho3 h5 hsz, Nat.le_trans hsz h5.size⟩⟩
    intro v7
    simp only [List.set_cons_succ, List.set_cons_zero, Nat.reduceAdd]
    apply RegT.T_pure rfl rfl rfl
    · intro W hR; clear hR; go_simp; rfl
    simp only [List.set_cons_succ, List.set_cons_zero, Nat.reduceAdd]
    refine RegT.T_end rfl (fun W0 hR hf => ?_)
    have hy : AccP w0.heap.size (Form.nat 3 ++ Form.nat t) v7 W0 := hf _ (.head _) (.inl rfl)
    obtain ⟨p0, n0, c0, rfl, hn0, ho0⟩ := hy
    have HO0 := Lib.hid ho0
    have HK0 := Lib.hid (show Below w0.heap.size w0 W0 ∧ Below w.heap.size w W0 ∧ w0.heap.size ≤ W0.heap.size from ⟨(Below.refl w0.heap.size w0).drew.trans (hR (Nat.le_refl _)).1, HB0.out.trans (((Below.refl w0.heap.size w0).drew.trans (hR (Nat.le_refl _)).1).mono (Nat.le_of_lt hsz)), (hR (Nat.le_refl _)).2⟩)
    clear hR hf ho0 hn0
    have xk : W0.cell? ⟨w.heap.size, 0, none⟩ = some (.int .u8 3) := HX.out W0 0 HK0.out.1.block
    have x0 : W0.cell? ⟨w.heap.size, 3, none⟩ = some (.int .u64 (i : Int)) := HX.out W0 3 HK0.out.1.block
    go_wp2_with (first
      | (go_at_call 95; go_loud ((with_reducible refine (refnat_w i _ hi).mono ?_); rintro e V0 ⟨q0, k0, d0, rfl, hq, hkq, hB⟩; have HO0b := Lib.hid (HO0.out.keeps hB.block); have HQ0 := Lib.hid hq.rd; have HK0b := Lib.hid (And.intro (HK0.out.1.trans (hB.mono HK0.out.2.2)) (And.intro (HK0.out.2.1.trans (hB.mono HK0.out.2.1.size)) (Nat.le_trans HK0.out.2.2 hB.size))); clear hq hkq hB HO0 HK0))
      | (at_builtin; go_loud (refine wpList_append_bytes rfl (.tmp 46) (.tmp 49) 29 rfl hel rfl HO0b.out rfl HQ0.out (by have := HLen.out; simp only [List.length_append]; omega) HK0b.out.2.2 ?_; intro p1 n1 c1 W1 hn ho hg; have HO1 := Lib.hid ho; have HK1 := Lib.hid (And.intro (HK0b.out.1.trans (below_own HO0b.out hg HK0b.out.2.2)) (And.intro (HK0b.out.2.1.trans ((below_own HO0b.out hg HK0b.out.2.2).mono (Nat.le_of_lt hsz))) (Nat.le_trans HK0b.out.2.2 hg.size))); have x1 : W1.cell? ⟨w.heap.size, 4, none⟩ = some (.int .u64 (a : Int)) := HX.out W1 4 HK1.out.1.block; clear hn ho hg HO0b HK0b HQ0))
      | (go_at_call 95; go_loud ((with_reducible refine (refnat_w a _ ha).mono ?_); rintro e V1 ⟨q1, k1, d1, rfl, hq, hkq, hB⟩; have HO1b := Lib.hid (HO1.out.keeps hB.block); have HQ1 := Lib.hid hq.rd; have HK1b := Lib.hid (And.intro (HK1.out.1.trans (hB.mono HK1.out.2.2)) (And.intro (HK1.out.2.1.trans (hB.mono HK1.out.2.1.size)) (Nat.le_trans HK1.out.2.2 hB.size))); clear hq hkq hB HO1 HK1))
      | (at_builtin; go_loud (refine wpList_append_bytes rfl (.tmp 51) (.tmp 54) 29 rfl hel rfl HO1b.out rfl HQ1.out (by have := HLen.out; simp only [List.length_append]; omega) HK1b.out.2.2 ?_; intro p2 n2 c2 W2 hn ho hg; have HO2 := Lib.hid ho; have HK2 := Lib.hid (And.intro (HK1b.out.1.trans (below_own HO1b.out hg HK1b.out.2.2)) (And.intro (HK1b.out.2.1.trans ((below_own HO1b.out hg HK1b.out.2.2).mono (Nat.le_of_lt hsz))) (Nat.le_trans HK1b.out.2.2 hg.size))); clear hn ho hg HO1b HK1b HQ1)))
    go_ret
    exact ⟨⟨_, _, _, rfl, OB.lower HO2.out (Nat.le_of_lt hsz)⟩, HK2.out.2.1⟩
  · rfl
  · kernel_rfl
theorem formN_4 (t r i a c : Nat) (y : Bool) (L : List Ent) (D : List UInt8) : formN ⟨4, t, r, i, a, c, y, L, D⟩ = Form.nat 4 ++ Form.nat t ++ Form.flag y := by
  unfold formN natsN
  simp only [List.flatMap_cons, List.flatMap_nil]
  rw [show hasR 4 = false from rfl, show hasI 4 = false from rfl, show hasA 4 = false from rfl, show hasC 4 = false from rfl, show hasY 4 = true from rfl]
  simp [List.append_assoc]
set_option maxRecDepth 100000 in
set_option maxHeartbeats 12800000 in
theorem rbytes_4_w (t r i a c : Nat) (y : Bool) (pl pd : Option Addr) (cl cd : Nat) (L : List Ent) (D : List UInt8) (S : Foot) (w : World) (h : NtA w S (.slice pl L.length cl) (.slice pd D.length cd) ⟨4, t, r, i, a, c, y, L, D⟩) (hL : L.length ≤ 16) (hLd : ∀ e ∈ L, e.2.length ≤ 3000) (hDl : D.length ≤ 524288) :
    Calls Try.prog 48 #[.agg #[.int .u8 4, .int .u64 (t : Int), .int .u64 (r : Int), .int .u64 (i : Int), .int .u64 (a : Int), .int .u64 (c : Int), .bool y, .slice pl L.length cl, .slice pd D.length cd]] w fun e w' => (∃ pp nn kk, e = .returned (.slice pp nn kk) ∧ OB w' w.heap.size 5 (.slice pp nn kk) (Form.nat 4 ++ Form.nat t ++ Form.flag y)) ∧ Below w.heap.size w w' := by
  have ht : t < 2 ^ 64 := h.term
  have hr : r < 2 ^ 64 := h.round
  have hi : i < 2 ^ 64 := h.index
  have ha : a < 2 ^ 64 := h.at_
  have hc : c < 2 ^ 64 := h.commit
  have hB0 := (Below.refl w.heap.size w).alloc (Nat.le_refl _) (.cells #[.int .u8 4, .int .u64 (t : Int), .int .u64 (r : Int), .int .u64 (i : Int), .int .u64 (a : Int), .int .u64 (c : Int), .bool y, .slice pl L.length cl, .slice pd D.length cd] 31)
  have HB0 := Lib.hid hB0
  have hN0 := NcAt.new w #[.int .u8 4, .int .u64 (t : Int), .int .u64 (r : Int), .int .u64 (i : Int), .int .u64 (a : Int), .int .u64 (c : Int), .bool y, .slice pl L.length cl, .slice pd D.length cd]
  have H := Lib.hid (h.mono (S' := fun b => b < w.heap.size) fun b hb _ => hb)
  have HLd := Lib.hid hLd
  have e18 : IntKind.u64.wrap (4 : Int) = 4 := by decide
  have eL : IntKind.u64.wrap (L.length : Int) = (L.length : Int) := IntWalk.u64_in _ (by omega)
  have lt := Form.nat_len10 ht
  have lr := Form.nat_len10 hr
  have li := Form.nat_len10 hi
  have la := Form.nat_len10 ha
  have lc := Form.nat_len10 hc
  have lL := Form.nat_len10 (n := L.length) (by omega)
  have lk := Form.nat_len10 (n := 4) (by decide)
  have ly := flag_len y
  have lD := text_len D (by omega)
  have HLen := Lib.hid (And.intro lk (And.intro lt (And.intro lr (And.intro li (And.intro la (And.intro lc (And.intro lL (And.intro ly lD))))))))
  generalize hW : w.alloc (.cells #[.int .u8 4, .int .u64 (t : Int), .int .u64 (r : Int), .int .u64 (i : Int), .int .u64 (a : Int), .int .u64 (c : Int), .bool y, .slice pl L.length cl, .slice pd D.length cd] 31) = w0 at *
  have HN := Lib.hid hN0
  have hsz : w.heap.size < w0.heap.size := hN0.lt
  have HX := Lib.hid (fun (W : World) (f : Nat) (hk : Keeps w0 W) => (show W.cell? ⟨w.heap.size, f, none⟩ = (#[.int .u8 4, .int .u64 (t : Int), .int .u64 (r : Int), .int .u64 (i : Int), .int .u64 (a : Int), .int .u64 (c : Int), .bool y, .slice pl L.length cl, .slice pd D.length cd] : Array Value)[f]? from cell_of_row _ _ _ _ _ _ (HN.out.keeps hk)))
  clear hB0 hN0 h hLd lt lr li la lc lL lk ly lD
  go_enter Try.func48, Try.ntmps48
  go_wp2
  clear hW
  apply RegT.wp_region_T rfl 142 9 rfl (by kernel_rfl) (RegT.Under w0.heap.size) (RegT.Under.refl _) (RegT.Under.trans _)
  · apply RegT.T_pure rfl rfl rfl
    · intro W hR; clear hR; go_simp; rfl
    simp only [List.set_cons_succ, List.set_cons_zero, Nat.reduceAdd]
    apply RegT.T_pure (v := .int .u8 4) rfl rfl rfl
    · intro W hR
      have hc := HX.out W 0 ((Keeps.refl w0).drew.trans (hR (Nat.le_refl _)).1.block)
      clear hR
      go_simp
    simp only [List.set_cons_succ, List.set_cons_zero, Nat.reduceAdd]
    apply RegT.T_pure (v := .int .u64 4) rfl rfl rfl
    · intro W hR; clear hR; go_simp
    simp only [List.set_cons_succ, List.set_cons_zero, Nat.reduceAdd]
    apply RegT.T_predC rfl rfl rfl 7 (AccP w0.heap.size (Form.nat 4)) (RegT.Under.grow _) (fun y x z hR h => h.keeps hR.block)
    · intro W hR hf
      have hsz := (hR (Nat.le_refl _)).2
      have Hc := Lib.hid (refnat_w 4 W (by decide))
      clear hR hf
      go_simp
      exact RegT.OpOK_enter Hc.out (fun e w' ⟨p, k, c, he, ho, hk, hB⟩ => ⟨_, he, ⟨p, k, c, rfl, hk, OB.lower ho hsz⟩, hB⟩)
    intro v3
    simp only [List.set_cons_succ, List.set_cons_zero, Nat.reduceAdd]
    apply RegT.T_pure rfl rfl rfl
    · intro W hR; clear hR; go_simp; rfl
    simp only [List.set_cons_succ, List.set_cons_zero, Nat.reduceAdd]
    apply RegT.T_pure (v := .int .u64 (t : Int)) rfl rfl rfl
    · intro W hR
      have hc := HX.out W 1 ((Keeps.refl w0).drew.trans (hR (Nat.le_refl _)).1.block)
      clear hR
      go_simp
    simp only [List.set_cons_succ, List.set_cons_zero, Nat.reduceAdd]
    apply RegT.T_predC rfl rfl rfl 7 (AccP w0.heap.size (Form.nat t)) (RegT.Under.grow _) (fun y x z hR h => h.keeps hR.block)
    · intro W hR hf
      have hsz := (hR (Nat.le_refl _)).2
      have Hc := Lib.hid (refnat_w t W ht)
      clear hR hf
      go_simp
      exact RegT.OpOK_enter Hc.out (fun e w' ⟨p, k, c, he, ho, hk, hB⟩ => ⟨_, he, ⟨p, k, c, rfl, hk, OB.lower ho hsz⟩, hB⟩)
    intro v6
    simp only [List.set_cons_succ, List.set_cons_zero, Nat.reduceAdd]
    apply RegT.T_write rfl rfl rfl none (AccP w0.heap.size (Form.nat 4 ++ Form.nat t)) (fun y x z hR h => h.keeps hR.block)
    · intro W hR hf
      have hsz := (hR (Nat.le_refl _)).2
      have h3 : AccP w0.heap.size (Form.nat 4) v3 W := hf _ (.tail _ (.head _)) (by kernel_rfl) (.inr rfl)
      have h6 : AccP w0.heap.size (Form.nat t) v6 W := hf _ (.head _) (by kernel_rfl) (.inr rfl)
      obtain ⟨p3, n3, c3, rfl, hn3, ho3⟩ := h3
      obtain ⟨p6, n6, c6, rfl, hn6, ho6⟩ := h6
      obtain ⟨p, n, c, w', hr', h4, h5⟩ := append29_run ho3 ho6.rd (by have := HLen.out; omega) hsz 29
      exact append_ok (.tmp 8) (.tmp 11) rfl rfl rfl hr' ⟨⟨p, n, c, rfl, RdB_len h4.rd, h4⟩, fun _ => ⟨below_own ho3 h5 hsz, Nat.le_trans hsz h5.size⟩⟩
    intro v7
    simp only [List.set_cons_succ, List.set_cons_zero, Nat.reduceAdd]
    apply RegT.T_pure rfl rfl rfl
    · intro W hR; clear hR; go_simp; rfl
    simp only [List.set_cons_succ, List.set_cons_zero, Nat.reduceAdd]
    refine RegT.T_end rfl (fun W0 hR hf => ?_)
    have hy : AccP w0.heap.size (Form.nat 4 ++ Form.nat t) v7 W0 := hf _ (.head _) (.inl rfl)
    obtain ⟨p0, n0, c0, rfl, hn0, ho0⟩ := hy
    have HO0 := Lib.hid ho0
    have HK0 := Lib.hid (show Below w0.heap.size w0 W0 ∧ Below w.heap.size w W0 ∧ w0.heap.size ≤ W0.heap.size from ⟨(Below.refl w0.heap.size w0).drew.trans (hR (Nat.le_refl _)).1, HB0.out.trans (((Below.refl w0.heap.size w0).drew.trans (hR (Nat.le_refl _)).1).mono (Nat.le_of_lt hsz)), (hR (Nat.le_refl _)).2⟩)
    clear hR hf ho0 hn0
    have xk : W0.cell? ⟨w.heap.size, 0, none⟩ = some (.int .u8 4) := HX.out W0 0 HK0.out.1.block
    have x0 : W0.cell? ⟨w.heap.size, 6, none⟩ = some (.bool y) := HX.out W0 6 HK0.out.1.block
    go_wp2_with (first
      | (go_at_call 96; go_loud ((with_reducible refine (refflag_w y _).mono ?_); rintro e V0 ⟨q0, k0, d0, rfl, hq, hkq, hB⟩; have HO0b := Lib.hid (HO0.out.keeps hB.block); have HQ0 := Lib.hid hq.rd; have HK0b := Lib.hid (And.intro (HK0.out.1.trans (hB.mono HK0.out.2.2)) (And.intro (HK0.out.2.1.trans (hB.mono HK0.out.2.1.size)) (Nat.le_trans HK0.out.2.2 hB.size))); clear hq hkq hB HO0 HK0))
      | (at_builtin; go_loud (refine wpList_append_bytes rfl (.tmp 58) (.tmp 61) 29 rfl hel rfl HO0b.out rfl HQ0.out (by have := HLen.out; simp only [List.length_append]; omega) HK0b.out.2.2 ?_; intro p1 n1 c1 W1 hn ho hg; have HO1 := Lib.hid ho; have HK1 := Lib.hid (And.intro (HK0b.out.1.trans (below_own HO0b.out hg HK0b.out.2.2)) (And.intro (HK0b.out.2.1.trans ((below_own HO0b.out hg HK0b.out.2.2).mono (Nat.le_of_lt hsz))) (Nat.le_trans HK0b.out.2.2 hg.size))); clear hn ho hg HO0b HK0b HQ0)))
    go_ret
    exact ⟨⟨_, _, _, rfl, OB.lower HO1.out (Nat.le_of_lt hsz)⟩, HK1.out.2.1⟩
  · rfl
  · kernel_rfl
theorem formN_5 (t r i a c : Nat) (y : Bool) (L : List Ent) (D : List UInt8) : formN ⟨5, t, r, i, a, c, y, L, D⟩ = Form.nat 5 ++ Form.nat t ++ Form.nat i ++ Form.nat a ++ Form.nat c ++ Form.nat L.length ++ entsN L := by
  unfold formN natsN
  simp only [List.flatMap_cons, List.flatMap_nil]
  rw [show hasR 5 = false from rfl, show hasI 5 = true from rfl, show hasA 5 = true from rfl, show hasC 5 = true from rfl, show hasY 5 = false from rfl]
  rw [show hasL 5 = true from rfl]
  simp [List.append_assoc]
set_option maxRecDepth 100000 in
set_option maxHeartbeats 12800000 in
theorem rbytes_5_w (t r i a c : Nat) (y : Bool) (pl pd : Option Addr) (cl cd : Nat) (L : List Ent) (D : List UInt8) (S : Foot) (w : World) (h : NtA w S (.slice pl L.length cl) (.slice pd D.length cd) ⟨5, t, r, i, a, c, y, L, D⟩) (hL : L.length ≤ 16) (hLd : ∀ e ∈ L, e.2.length ≤ 3000) (hDl : D.length ≤ 524288) :
    Calls Try.prog 48 #[.agg #[.int .u8 5, .int .u64 (t : Int), .int .u64 (r : Int), .int .u64 (i : Int), .int .u64 (a : Int), .int .u64 (c : Int), .bool y, .slice pl L.length cl, .slice pd D.length cd]] w fun e w' => (∃ pp nn kk, e = .returned (.slice pp nn kk) ∧ OB w' w.heap.size 5 (.slice pp nn kk) (Form.nat 5 ++ Form.nat t ++ Form.nat i ++ Form.nat a ++ Form.nat c ++ Form.nat L.length ++ entsN L)) ∧ Below w.heap.size w w' := by
  have ht : t < 2 ^ 64 := h.term
  have hr : r < 2 ^ 64 := h.round
  have hi : i < 2 ^ 64 := h.index
  have ha : a < 2 ^ 64 := h.at_
  have hc : c < 2 ^ 64 := h.commit
  have hB0 := (Below.refl w.heap.size w).alloc (Nat.le_refl _) (.cells #[.int .u8 5, .int .u64 (t : Int), .int .u64 (r : Int), .int .u64 (i : Int), .int .u64 (a : Int), .int .u64 (c : Int), .bool y, .slice pl L.length cl, .slice pd D.length cd] 31)
  have HB0 := Lib.hid hB0
  have hN0 := NcAt.new w #[.int .u8 5, .int .u64 (t : Int), .int .u64 (r : Int), .int .u64 (i : Int), .int .u64 (a : Int), .int .u64 (c : Int), .bool y, .slice pl L.length cl, .slice pd D.length cd]
  have H := Lib.hid (h.mono (S' := fun b => b < w.heap.size) fun b hb _ => hb)
  have HLd := Lib.hid hLd
  have e18 : IntKind.u64.wrap (5 : Int) = 5 := by decide
  have eL : IntKind.u64.wrap (L.length : Int) = (L.length : Int) := IntWalk.u64_in _ (by omega)
  have lt := Form.nat_len10 ht
  have lr := Form.nat_len10 hr
  have li := Form.nat_len10 hi
  have la := Form.nat_len10 ha
  have lc := Form.nat_len10 hc
  have lL := Form.nat_len10 (n := L.length) (by omega)
  have lk := Form.nat_len10 (n := 5) (by decide)
  have ly := flag_len y
  have lD := text_len D (by omega)
  have HLen := Lib.hid (And.intro lk (And.intro lt (And.intro lr (And.intro li (And.intro la (And.intro lc (And.intro lL (And.intro ly lD))))))))
  generalize hW : w.alloc (.cells #[.int .u8 5, .int .u64 (t : Int), .int .u64 (r : Int), .int .u64 (i : Int), .int .u64 (a : Int), .int .u64 (c : Int), .bool y, .slice pl L.length cl, .slice pd D.length cd] 31) = w0 at *
  have HN := Lib.hid hN0
  have hsz : w.heap.size < w0.heap.size := hN0.lt
  have HX := Lib.hid (fun (W : World) (f : Nat) (hk : Keeps w0 W) => (show W.cell? ⟨w.heap.size, f, none⟩ = (#[.int .u8 5, .int .u64 (t : Int), .int .u64 (r : Int), .int .u64 (i : Int), .int .u64 (a : Int), .int .u64 (c : Int), .bool y, .slice pl L.length cl, .slice pd D.length cd] : Array Value)[f]? from cell_of_row _ _ _ _ _ _ (HN.out.keeps hk)))
  clear hB0 hN0 h hLd lt lr li la lc lL lk ly lD
  go_enter Try.func48, Try.ntmps48
  go_wp2
  clear hW
  apply RegT.wp_region_T rfl 142 9 rfl (by kernel_rfl) (RegT.Under w0.heap.size) (RegT.Under.refl _) (RegT.Under.trans _)
  · apply RegT.T_pure rfl rfl rfl
    · intro W hR; clear hR; go_simp; rfl
    simp only [List.set_cons_succ, List.set_cons_zero, Nat.reduceAdd]
    apply RegT.T_pure (v := .int .u8 5) rfl rfl rfl
    · intro W hR
      have hc := HX.out W 0 ((Keeps.refl w0).drew.trans (hR (Nat.le_refl _)).1.block)
      clear hR
      go_simp
    simp only [List.set_cons_succ, List.set_cons_zero, Nat.reduceAdd]
    apply RegT.T_pure (v := .int .u64 5) rfl rfl rfl
    · intro W hR; clear hR; go_simp
    simp only [List.set_cons_succ, List.set_cons_zero, Nat.reduceAdd]
    apply RegT.T_predC rfl rfl rfl 7 (AccP w0.heap.size (Form.nat 5)) (RegT.Under.grow _) (fun y x z hR h => h.keeps hR.block)
    · intro W hR hf
      have hsz := (hR (Nat.le_refl _)).2
      have Hc := Lib.hid (refnat_w 5 W (by decide))
      clear hR hf
      go_simp
      exact RegT.OpOK_enter Hc.out (fun e w' ⟨p, k, c, he, ho, hk, hB⟩ => ⟨_, he, ⟨p, k, c, rfl, hk, OB.lower ho hsz⟩, hB⟩)
    intro v3
    simp only [List.set_cons_succ, List.set_cons_zero, Nat.reduceAdd]
    apply RegT.T_pure rfl rfl rfl
    · intro W hR; clear hR; go_simp; rfl
    simp only [List.set_cons_succ, List.set_cons_zero, Nat.reduceAdd]
    apply RegT.T_pure (v := .int .u64 (t : Int)) rfl rfl rfl
    · intro W hR
      have hc := HX.out W 1 ((Keeps.refl w0).drew.trans (hR (Nat.le_refl _)).1.block)
      clear hR
      go_simp
    simp only [List.set_cons_succ, List.set_cons_zero, Nat.reduceAdd]
    apply RegT.T_predC rfl rfl rfl 7 (AccP w0.heap.size (Form.nat t)) (RegT.Under.grow _) (fun y x z hR h => h.keeps hR.block)
    · intro W hR hf
      have hsz := (hR (Nat.le_refl _)).2
      have Hc := Lib.hid (refnat_w t W ht)
      clear hR hf
      go_simp
      exact RegT.OpOK_enter Hc.out (fun e w' ⟨p, k, c, he, ho, hk, hB⟩ => ⟨_, he, ⟨p, k, c, rfl, hk, OB.lower ho hsz⟩, hB⟩)
    intro v6
    simp only [List.set_cons_succ, List.set_cons_zero, Nat.reduceAdd]
    apply RegT.T_write rfl rfl rfl none (AccP w0.heap.size (Form.nat 5 ++ Form.nat t)) (fun y x z hR h => h.keeps hR.block)
    · intro W hR hf
      have hsz := (hR (Nat.le_refl _)).2
      have h3 : AccP w0.heap.size (Form.nat 5) v3 W := hf _ (.tail _ (.head _)) (by kernel_rfl) (.inr rfl)
      have h6 : AccP w0.heap.size (Form.nat t) v6 W := hf _ (.head _) (by kernel_rfl) (.inr rfl)
      obtain ⟨p3, n3, c3, rfl, hn3, ho3⟩ := h3
      obtain ⟨p6, n6, c6, rfl, hn6, ho6⟩ := h6
      obtain ⟨p, n, c, w', hr', h4, h5⟩ := append29_run ho3 ho6.rd (by have := HLen.out; omega) hsz 29
      exact append_ok (.tmp 8) (.tmp 11) rfl rfl rfl hr' ⟨⟨p, n, c, rfl, RdB_len h4.rd, h4⟩, fun _ => ⟨below_own ho3 h5 hsz, Nat.le_trans hsz h5.size⟩⟩
    intro v7
    simp only [List.set_cons_succ, List.set_cons_zero, Nat.reduceAdd]
    apply RegT.T_pure rfl rfl rfl
    · intro W hR; clear hR; go_simp; rfl
    simp only [List.set_cons_succ, List.set_cons_zero, Nat.reduceAdd]
    refine RegT.T_end rfl (fun W0 hR hf => ?_)
    have hy : AccP w0.heap.size (Form.nat 5 ++ Form.nat t) v7 W0 := hf _ (.head _) (.inl rfl)
    obtain ⟨p0, n0, c0, rfl, hn0, ho0⟩ := hy
    have HO0 := Lib.hid ho0
    have HK0 := Lib.hid (show Below w0.heap.size w0 W0 ∧ Below w.heap.size w W0 ∧ w0.heap.size ≤ W0.heap.size from ⟨(Below.refl w0.heap.size w0).drew.trans (hR (Nat.le_refl _)).1, HB0.out.trans (((Below.refl w0.heap.size w0).drew.trans (hR (Nat.le_refl _)).1).mono (Nat.le_of_lt hsz)), (hR (Nat.le_refl _)).2⟩)
    clear hR hf ho0 hn0
    have xk : W0.cell? ⟨w.heap.size, 0, none⟩ = some (.int .u8 5) := HX.out W0 0 HK0.out.1.block
    have x0 : W0.cell? ⟨w.heap.size, 3, none⟩ = some (.int .u64 (i : Int)) := HX.out W0 3 HK0.out.1.block
    go_wp2_with (first
      | (go_at_call 95; go_loud ((with_reducible refine (refnat_w i _ hi).mono ?_); rintro e V0 ⟨q0, k0, d0, rfl, hq, hkq, hB⟩; have HO0b := Lib.hid (HO0.out.keeps hB.block); have HQ0 := Lib.hid hq.rd; have HK0b := Lib.hid (And.intro (HK0.out.1.trans (hB.mono HK0.out.2.2)) (And.intro (HK0.out.2.1.trans (hB.mono HK0.out.2.1.size)) (Nat.le_trans HK0.out.2.2 hB.size))); clear hq hkq hB HO0 HK0))
      | (at_builtin; go_loud (refine wpList_append_bytes rfl (.tmp 65) (.tmp 68) 29 rfl hel rfl HO0b.out rfl HQ0.out (by have := HLen.out; simp only [List.length_append]; omega) HK0b.out.2.2 ?_; intro p1 n1 c1 W1 hn ho hg; have HO1 := Lib.hid ho; have HK1 := Lib.hid (And.intro (HK0b.out.1.trans (below_own HO0b.out hg HK0b.out.2.2)) (And.intro (HK0b.out.2.1.trans ((below_own HO0b.out hg HK0b.out.2.2).mono (Nat.le_of_lt hsz))) (Nat.le_trans HK0b.out.2.2 hg.size))); have x1 : W1.cell? ⟨w.heap.size, 4, none⟩ = some (.int .u64 (a : Int)) := HX.out W1 4 HK1.out.1.block; clear hn ho hg HO0b HK0b HQ0))
      | (go_at_call 95; go_loud ((with_reducible refine (refnat_w a _ ha).mono ?_); rintro e V1 ⟨q1, k1, d1, rfl, hq, hkq, hB⟩; have HO1b := Lib.hid (HO1.out.keeps hB.block); have HQ1 := Lib.hid hq.rd; have HK1b := Lib.hid (And.intro (HK1.out.1.trans (hB.mono HK1.out.2.2)) (And.intro (HK1.out.2.1.trans (hB.mono HK1.out.2.1.size)) (Nat.le_trans HK1.out.2.2 hB.size))); clear hq hkq hB HO1 HK1))
      | (at_builtin; go_loud (refine wpList_append_bytes rfl (.tmp 70) (.tmp 73) 29 rfl hel rfl HO1b.out rfl HQ1.out (by have := HLen.out; simp only [List.length_append]; omega) HK1b.out.2.2 ?_; intro p2 n2 c2 W2 hn ho hg; have HO2 := Lib.hid ho; have HK2 := Lib.hid (And.intro (HK1b.out.1.trans (below_own HO1b.out hg HK1b.out.2.2)) (And.intro (HK1b.out.2.1.trans ((below_own HO1b.out hg HK1b.out.2.2).mono (Nat.le_of_lt hsz))) (Nat.le_trans HK1b.out.2.2 hg.size))); have x2 : W2.cell? ⟨w.heap.size, 5, none⟩ = some (.int .u64 (c : Int)) := HX.out W2 5 HK2.out.1.block; clear hn ho hg HO1b HK1b HQ1))
      | (go_at_call 95; go_loud ((with_reducible refine (refnat_w c _ hc).mono ?_); rintro e V2 ⟨q2, k2, d2, rfl, hq, hkq, hB⟩; have HO2b := Lib.hid (HO2.out.keeps hB.block); have HQ2 := Lib.hid hq.rd; have HK2b := Lib.hid (And.intro (HK2.out.1.trans (hB.mono HK2.out.2.2)) (And.intro (HK2.out.2.1.trans (hB.mono HK2.out.2.1.size)) (Nat.le_trans HK2.out.2.2 hB.size))); clear hq hkq hB HO2 HK2))
      | (at_builtin; go_loud (refine wpList_append_bytes rfl (.tmp 75) (.tmp 78) 29 rfl hel rfl HO2b.out rfl HQ2.out (by have := HLen.out; simp only [List.length_append]; omega) HK2b.out.2.2 ?_; intro p3 n3 c3 W3 hn ho hg; have HO3 := Lib.hid ho; have HK3 := Lib.hid (And.intro (HK2b.out.1.trans (below_own HO2b.out hg HK2b.out.2.2)) (And.intro (HK2b.out.2.1.trans ((below_own HO2b.out hg HK2b.out.2.2).mono (Nat.le_of_lt hsz))) (Nat.le_trans HK2b.out.2.2 hg.size))); have x3 : W3.cell? ⟨w.heap.size, 7, none⟩ = some (.slice pl L.length cl) := HX.out W3 7 HK3.out.1.block; clear hn ho hg HO2b HK2b HQ2))
      | (go_at_call 95; go_loud ((with_reducible refine (refnat_w L.length _ (by omega)).mono ?_); rintro e V3 ⟨q3, k3, d3, rfl, hq, hkq, hB⟩; have HO3b := Lib.hid (HO3.out.keeps hB.block); have HQ3 := Lib.hid hq.rd; have HK3b := Lib.hid (And.intro (HK3.out.1.trans (hB.mono HK3.out.2.2)) (And.intro (HK3.out.2.1.trans (hB.mono HK3.out.2.1.size)) (Nat.le_trans HK3.out.2.2 hB.size))); clear hq hkq hB HO3 HK3))
      | (at_builtin; go_loud (refine wpList_append_bytes rfl (.tmp 80) (.tmp 85) 29 rfl hel rfl HO3b.out rfl HQ3.out (by have := HLen.out; simp only [List.length_append]; omega) HK3b.out.2.2 ?_; intro p4 n4 c4 W4 hn ho hg; have HO4 := Lib.hid ho; have HK4 := Lib.hid (And.intro (HK3b.out.1.trans (below_own HO3b.out hg HK3b.out.2.2)) (And.intro (HK3b.out.2.1.trans ((below_own HO3b.out hg HK3b.out.2.2).mono (Nat.le_of_lt hsz))) (Nat.le_trans HK3b.out.2.2 hg.size))); clear hn ho hg HO3b HK3b HQ3)))
    have HPl := Lib.hid (show (Form.nat 5 ++ Form.nat t ++ Form.nat i ++ Form.nat a ++ Form.nat c ++ Form.nat L.length).length ≤ 100 by have := HLen.out; simp only [List.length_append]; omega)
    generalize hpre : Form.nat 5 ++ Form.nat t ++ Form.nat i ++ Form.nat a ++ Form.nat c ++ Form.nat L.length = pre at *
    have Hpre := Lib.hid hpre
    clear hpre
    go_loopw [3, 4] (fun v i wr => ∃ (q : Nat) (p : Option Addr) (n cc : Nat), q ≤ L.length ∧ i = .int .i64 (q : Int) ∧ v = .slice p n cc ∧ Hid (OB wr w0.heap.size 5 (.slice p n cc) (pre ++ entsN (L.take q))) ∧ Hid (Below w0.heap.size w0 wr ∧ Below w.heap.size w wr ∧ w0.heap.size ≤ wr.heap.size)) (fun _ i _ => L.length - (intOf i).toNat)
    case atStart => exact ⟨0, _, _, _, Nat.zero_le _, rfl, rfl, Lib.hid (by simpa [entsN] using HO4.out), HK4⟩
    case round =>
      obtain ⟨q, p, n, cc, hq, rfl, rfl, HO, HK⟩ := hrel
      clear HO4 HK4
      have x7 : wr.cell? ⟨w.heap.size, 7, none⟩ = some (.slice pl L.length cl) := HX.out wr 7 HK.out.1.block
      by_cases hlt : q < L.length
      · obtain ⟨b, off, c2, d, hv, _, hbl, q0, q1, q3, htl⟩ := H.out.l.elemF q hlt
        cases hv
        have HC0 := Lib.hid (fun (W : World) (hW : Below w.heap.size w W) => (World.cell?_of_block (w := w) (a := ⟨b, off + q * 2, none⟩) (hW.block b hbl)).trans q0)
        have HC1 := Lib.hid (fun (W : World) (hW : Below w.heap.size w W) => (World.cell?_of_block (w := w) (a := ⟨b, off + q * 2 + 1, none⟩) (hW.block b hbl)).trans q1)
        have Htk := Lib.hid (show L.take (q + 1) = L.take q ++ [(L[q].1, L[q].2)] by rw [List.take_succ_eq_append_getElem hlt])
        have hll := HLd.out L[q] (List.getElem_mem _)
        have HQd := Lib.hid q3
        have hlen : (pre ++ entsN (L.take q)).length ≤ 100 + 3020 * 16 := by
          have h1 := entsN_len (L.take q) fun e he => ⟨H.out.fit.list e (List.mem_of_mem_take he), HLd.out e (List.mem_of_mem_take he)⟩
          rw [List.length_append]
          rw [List.length_take] at h1
          have := HPl.out
          omega
        have Hlenk := Lib.hid hlen
        clear q0 q1 q3 hlen
        generalize L[q].1 = tt at *
        generalize L[q].2 = le at *
        obtain ⟨pe, ce, rfl⟩ : ∃ p c, d = .slice p le.length c := by obtain ⟨p, c, h1, _⟩ := HQd.out.rd; exact ⟨p, c, h1⟩
        have ltt := Form.nat_len10 htl
        have lle := text_len le (by omega)
        have hc0 := HC0.out wr HK.out.2.1
        have HF := Lib.hid (And.intro ltt lle)
        clear ltt lle
        go_wp2_with (first
          | (go_at_call 95; go_loud ((with_reducible refine (refnat_w tt _ htl).mono ?_); rintro e V0 ⟨q0, k0, d0, rfl, hq, hkq, hB⟩; have HOb := Lib.hid (HO.out.keeps hB.block); have HQ := Lib.hid hq.rd; have HKb := Lib.hid (And.intro (HK.out.1.trans (hB.mono HK.out.2.2)) (And.intro (HK.out.2.1.trans (hB.mono HK.out.2.1.size)) (Nat.le_trans HK.out.2.2 hB.size))); clear hq hkq hB HO HK))
          | (refine wpList_append_bytes rfl (.tmp 94) (.tmp 101) 29 rfl hel rfl HOb.out rfl HQ.out (by have := HF.out; have := Hlenk.out; omega) HKb.out.2.2 ?_; intro p5 n5 c5 V1 hn ho hg; have HO1 := Lib.hid ho; have HK1 := Lib.hid (And.intro (HKb.out.1.trans (below_own HOb.out hg HKb.out.2.2)) (And.intro (HKb.out.2.1.trans ((below_own HOb.out hg HKb.out.2.2).mono (Nat.le_of_lt hsz))) (Nat.le_trans HKb.out.2.2 hg.size))); have x71 : V1.cell? ⟨w.heap.size, 7, none⟩ = some (.slice (some ⟨b, off, none⟩) L.length cl) := HX.out V1 7 HK1.out.1.block; have hc1 := HC1.out V1 HK1.out.2.1; have HQd1 := Lib.hid (show RdB V1 (.slice pe le.length ce) le from HQd.out.rd.keeps (show Keeps w V1 from fun b hb => HK1.out.2.1.block b hb)); clear hn ho hg HOb HKb HQ)
          | (go_at_call 97; go_loud ((with_reducible refine (reftext_w _ le _ HQd1.out (by omega)).mono ?_); rintro e V2 ⟨q2, k2, d2, rfl, hq, hkq, hB⟩; have HO2b := Lib.hid (HO1.out.keeps hB.block); have HQ2 := Lib.hid hq.rd; have HK2b := Lib.hid (And.intro (HK1.out.1.trans (hB.mono HK1.out.2.2)) (And.intro (HK1.out.2.1.trans (hB.mono HK1.out.2.1.size)) (Nat.le_trans HK1.out.2.2 hB.size))); clear hq hkq hB HO1 HK1))
          | (refine wpList_append_bytes rfl (.tmp 103) (.tmp 110) 29 rfl hel rfl HO2b.out rfl HQ2.out (by have := HF.out; have := Hlenk.out; simp only [List.length_append] at *; omega) HK2b.out.2.2 ?_; intro p6 n6 c6 V3 hn ho hg; have HO3 := Lib.hid ho; have HK3 := Lib.hid (And.intro (HK2b.out.1.trans (below_own HO2b.out hg HK2b.out.2.2)) (And.intro (HK2b.out.2.1.trans ((below_own HO2b.out hg HK2b.out.2.2).mono (Nat.le_of_lt hsz))) (Nat.le_trans HK2b.out.2.2 hg.size))); clear hn ho hg HO2b HK2b HQ2))
        go_roundw
        case rel => exact ⟨q + 1, p6, n6, c6, by omega, by go_num, rfl, Lib.hid (by rw [Htk.out, entsN_snoc, ← List.append_assoc, ← List.append_assoc]; exact HO3.out), HK3⟩
        case measure => simp [intOf]; omega
      · have hq2 : q = L.length := by omega
        have h1 := HO.out
        rw [hq2, List.take_length] at h1
        have HOe := Lib.hid h1
        clear h1 HO
        go_wp2
        go_ret
        exact ⟨⟨_, _, _, rfl, by rw [Hpre.out]; exact OB.lower HOe.out (Nat.le_of_lt hsz)⟩, HK.out.2.1⟩
  · rfl
  · kernel_rfl
theorem formN_6 (t r i a c : Nat) (y : Bool) (L : List Ent) (D : List UInt8) : formN ⟨6, t, r, i, a, c, y, L, D⟩ = Form.nat 6 ++ Form.nat t ++ Form.nat i ++ Form.flag y := by
  unfold formN natsN
  simp only [List.flatMap_cons, List.flatMap_nil]
  rw [show hasR 6 = false from rfl, show hasI 6 = true from rfl, show hasA 6 = false from rfl, show hasC 6 = false from rfl, show hasY 6 = true from rfl]
  simp [List.append_assoc]
set_option maxRecDepth 100000 in
set_option maxHeartbeats 12800000 in
theorem rbytes_6_w (t r i a c : Nat) (y : Bool) (pl pd : Option Addr) (cl cd : Nat) (L : List Ent) (D : List UInt8) (S : Foot) (w : World) (h : NtA w S (.slice pl L.length cl) (.slice pd D.length cd) ⟨6, t, r, i, a, c, y, L, D⟩) (hL : L.length ≤ 16) (hLd : ∀ e ∈ L, e.2.length ≤ 3000) (hDl : D.length ≤ 524288) :
    Calls Try.prog 48 #[.agg #[.int .u8 6, .int .u64 (t : Int), .int .u64 (r : Int), .int .u64 (i : Int), .int .u64 (a : Int), .int .u64 (c : Int), .bool y, .slice pl L.length cl, .slice pd D.length cd]] w fun e w' => (∃ pp nn kk, e = .returned (.slice pp nn kk) ∧ OB w' w.heap.size 5 (.slice pp nn kk) (Form.nat 6 ++ Form.nat t ++ Form.nat i ++ Form.flag y)) ∧ Below w.heap.size w w' := by
  have ht : t < 2 ^ 64 := h.term
  have hr : r < 2 ^ 64 := h.round
  have hi : i < 2 ^ 64 := h.index
  have ha : a < 2 ^ 64 := h.at_
  have hc : c < 2 ^ 64 := h.commit
  have hB0 := (Below.refl w.heap.size w).alloc (Nat.le_refl _) (.cells #[.int .u8 6, .int .u64 (t : Int), .int .u64 (r : Int), .int .u64 (i : Int), .int .u64 (a : Int), .int .u64 (c : Int), .bool y, .slice pl L.length cl, .slice pd D.length cd] 31)
  have HB0 := Lib.hid hB0
  have hN0 := NcAt.new w #[.int .u8 6, .int .u64 (t : Int), .int .u64 (r : Int), .int .u64 (i : Int), .int .u64 (a : Int), .int .u64 (c : Int), .bool y, .slice pl L.length cl, .slice pd D.length cd]
  have H := Lib.hid (h.mono (S' := fun b => b < w.heap.size) fun b hb _ => hb)
  have HLd := Lib.hid hLd
  have e18 : IntKind.u64.wrap (6 : Int) = 6 := by decide
  have eL : IntKind.u64.wrap (L.length : Int) = (L.length : Int) := IntWalk.u64_in _ (by omega)
  have lt := Form.nat_len10 ht
  have lr := Form.nat_len10 hr
  have li := Form.nat_len10 hi
  have la := Form.nat_len10 ha
  have lc := Form.nat_len10 hc
  have lL := Form.nat_len10 (n := L.length) (by omega)
  have lk := Form.nat_len10 (n := 6) (by decide)
  have ly := flag_len y
  have lD := text_len D (by omega)
  have HLen := Lib.hid (And.intro lk (And.intro lt (And.intro lr (And.intro li (And.intro la (And.intro lc (And.intro lL (And.intro ly lD))))))))
  generalize hW : w.alloc (.cells #[.int .u8 6, .int .u64 (t : Int), .int .u64 (r : Int), .int .u64 (i : Int), .int .u64 (a : Int), .int .u64 (c : Int), .bool y, .slice pl L.length cl, .slice pd D.length cd] 31) = w0 at *
  have HN := Lib.hid hN0
  have hsz : w.heap.size < w0.heap.size := hN0.lt
  have HX := Lib.hid (fun (W : World) (f : Nat) (hk : Keeps w0 W) => (show W.cell? ⟨w.heap.size, f, none⟩ = (#[.int .u8 6, .int .u64 (t : Int), .int .u64 (r : Int), .int .u64 (i : Int), .int .u64 (a : Int), .int .u64 (c : Int), .bool y, .slice pl L.length cl, .slice pd D.length cd] : Array Value)[f]? from cell_of_row _ _ _ _ _ _ (HN.out.keeps hk)))
  clear hB0 hN0 h hLd lt lr li la lc lL lk ly lD
  go_enter Try.func48, Try.ntmps48
  go_wp2
  clear hW
  apply RegT.wp_region_T rfl 142 9 rfl (by kernel_rfl) (RegT.Under w0.heap.size) (RegT.Under.refl _) (RegT.Under.trans _)
  · apply RegT.T_pure rfl rfl rfl
    · intro W hR; clear hR; go_simp; rfl
    simp only [List.set_cons_succ, List.set_cons_zero, Nat.reduceAdd]
    apply RegT.T_pure (v := .int .u8 6) rfl rfl rfl
    · intro W hR
      have hc := HX.out W 0 ((Keeps.refl w0).drew.trans (hR (Nat.le_refl _)).1.block)
      clear hR
      go_simp
    simp only [List.set_cons_succ, List.set_cons_zero, Nat.reduceAdd]
    apply RegT.T_pure (v := .int .u64 6) rfl rfl rfl
    · intro W hR; clear hR; go_simp
    simp only [List.set_cons_succ, List.set_cons_zero, Nat.reduceAdd]
    apply RegT.T_predC rfl rfl rfl 7 (AccP w0.heap.size (Form.nat 6)) (RegT.Under.grow _) (fun y x z hR h => h.keeps hR.block)
    · intro W hR hf
      have hsz := (hR (Nat.le_refl _)).2
      have Hc := Lib.hid (refnat_w 6 W (by decide))
      clear hR hf
      go_simp
      exact RegT.OpOK_enter Hc.out (fun e w' ⟨p, k, c, he, ho, hk, hB⟩ => ⟨_, he, ⟨p, k, c, rfl, hk, OB.lower ho hsz⟩, hB⟩)
    intro v3
    simp only [List.set_cons_succ, List.set_cons_zero, Nat.reduceAdd]
    apply RegT.T_pure rfl rfl rfl
    · intro W hR; clear hR; go_simp; rfl
    simp only [List.set_cons_succ, List.set_cons_zero, Nat.reduceAdd]
    apply RegT.T_pure (v := .int .u64 (t : Int)) rfl rfl rfl
    · intro W hR
      have hc := HX.out W 1 ((Keeps.refl w0).drew.trans (hR (Nat.le_refl _)).1.block)
      clear hR
      go_simp
    simp only [List.set_cons_succ, List.set_cons_zero, Nat.reduceAdd]
    apply RegT.T_predC rfl rfl rfl 7 (AccP w0.heap.size (Form.nat t)) (RegT.Under.grow _) (fun y x z hR h => h.keeps hR.block)
    · intro W hR hf
      have hsz := (hR (Nat.le_refl _)).2
      have Hc := Lib.hid (refnat_w t W ht)
      clear hR hf
      go_simp
      exact RegT.OpOK_enter Hc.out (fun e w' ⟨p, k, c, he, ho, hk, hB⟩ => ⟨_, he, ⟨p, k, c, rfl, hk, OB.lower ho hsz⟩, hB⟩)
    intro v6
    simp only [List.set_cons_succ, List.set_cons_zero, Nat.reduceAdd]
    apply RegT.T_write rfl rfl rfl none (AccP w0.heap.size (Form.nat 6 ++ Form.nat t)) (fun y x z hR h => h.keeps hR.block)
    · intro W hR hf
      have hsz := (hR (Nat.le_refl _)).2
      have h3 : AccP w0.heap.size (Form.nat 6) v3 W := hf _ (.tail _ (.head _)) (by kernel_rfl) (.inr rfl)
      have h6 : AccP w0.heap.size (Form.nat t) v6 W := hf _ (.head _) (by kernel_rfl) (.inr rfl)
      obtain ⟨p3, n3, c3, rfl, hn3, ho3⟩ := h3
      obtain ⟨p6, n6, c6, rfl, hn6, ho6⟩ := h6
      obtain ⟨p, n, c, w', hr', h4, h5⟩ := append29_run ho3 ho6.rd (by have := HLen.out; omega) hsz 29
      exact append_ok (.tmp 8) (.tmp 11) rfl rfl rfl hr' ⟨⟨p, n, c, rfl, RdB_len h4.rd, h4⟩, fun _ => ⟨below_own ho3 h5 hsz, Nat.le_trans hsz h5.size⟩⟩
    intro v7
    simp only [List.set_cons_succ, List.set_cons_zero, Nat.reduceAdd]
    apply RegT.T_pure rfl rfl rfl
    · intro W hR; clear hR; go_simp; rfl
    simp only [List.set_cons_succ, List.set_cons_zero, Nat.reduceAdd]
    refine RegT.T_end rfl (fun W0 hR hf => ?_)
    have hy : AccP w0.heap.size (Form.nat 6 ++ Form.nat t) v7 W0 := hf _ (.head _) (.inl rfl)
    obtain ⟨p0, n0, c0, rfl, hn0, ho0⟩ := hy
    have HO0 := Lib.hid ho0
    have HK0 := Lib.hid (show Below w0.heap.size w0 W0 ∧ Below w.heap.size w W0 ∧ w0.heap.size ≤ W0.heap.size from ⟨(Below.refl w0.heap.size w0).drew.trans (hR (Nat.le_refl _)).1, HB0.out.trans (((Below.refl w0.heap.size w0).drew.trans (hR (Nat.le_refl _)).1).mono (Nat.le_of_lt hsz)), (hR (Nat.le_refl _)).2⟩)
    clear hR hf ho0 hn0
    have xk : W0.cell? ⟨w.heap.size, 0, none⟩ = some (.int .u8 6) := HX.out W0 0 HK0.out.1.block
    have x0 : W0.cell? ⟨w.heap.size, 3, none⟩ = some (.int .u64 (i : Int)) := HX.out W0 3 HK0.out.1.block
    go_wp2_with (first
      | (go_at_call 95; go_loud ((with_reducible refine (refnat_w i _ hi).mono ?_); rintro e V0 ⟨q0, k0, d0, rfl, hq, hkq, hB⟩; have HO0b := Lib.hid (HO0.out.keeps hB.block); have HQ0 := Lib.hid hq.rd; have HK0b := Lib.hid (And.intro (HK0.out.1.trans (hB.mono HK0.out.2.2)) (And.intro (HK0.out.2.1.trans (hB.mono HK0.out.2.1.size)) (Nat.le_trans HK0.out.2.2 hB.size))); clear hq hkq hB HO0 HK0))
      | (at_builtin; go_loud (refine wpList_append_bytes rfl (.tmp 114) (.tmp 117) 29 rfl hel rfl HO0b.out rfl HQ0.out (by have := HLen.out; simp only [List.length_append]; omega) HK0b.out.2.2 ?_; intro p1 n1 c1 W1 hn ho hg; have HO1 := Lib.hid ho; have HK1 := Lib.hid (And.intro (HK0b.out.1.trans (below_own HO0b.out hg HK0b.out.2.2)) (And.intro (HK0b.out.2.1.trans ((below_own HO0b.out hg HK0b.out.2.2).mono (Nat.le_of_lt hsz))) (Nat.le_trans HK0b.out.2.2 hg.size))); have x1 : W1.cell? ⟨w.heap.size, 6, none⟩ = some (.bool y) := HX.out W1 6 HK1.out.1.block; clear hn ho hg HO0b HK0b HQ0))
      | (go_at_call 96; go_loud ((with_reducible refine (refflag_w y _).mono ?_); rintro e V1 ⟨q1, k1, d1, rfl, hq, hkq, hB⟩; have HO1b := Lib.hid (HO1.out.keeps hB.block); have HQ1 := Lib.hid hq.rd; have HK1b := Lib.hid (And.intro (HK1.out.1.trans (hB.mono HK1.out.2.2)) (And.intro (HK1.out.2.1.trans (hB.mono HK1.out.2.1.size)) (Nat.le_trans HK1.out.2.2 hB.size))); clear hq hkq hB HO1 HK1))
      | (at_builtin; go_loud (refine wpList_append_bytes rfl (.tmp 119) (.tmp 122) 29 rfl hel rfl HO1b.out rfl HQ1.out (by have := HLen.out; simp only [List.length_append]; omega) HK1b.out.2.2 ?_; intro p2 n2 c2 W2 hn ho hg; have HO2 := Lib.hid ho; have HK2 := Lib.hid (And.intro (HK1b.out.1.trans (below_own HO1b.out hg HK1b.out.2.2)) (And.intro (HK1b.out.2.1.trans ((below_own HO1b.out hg HK1b.out.2.2).mono (Nat.le_of_lt hsz))) (Nat.le_trans HK1b.out.2.2 hg.size))); clear hn ho hg HO1b HK1b HQ1)))
    go_ret
    exact ⟨⟨_, _, _, rfl, OB.lower HO2.out (Nat.le_of_lt hsz)⟩, HK2.out.2.1⟩
  · rfl
  · kernel_rfl
theorem formN_7 (t r i a c : Nat) (y : Bool) (L : List Ent) (D : List UInt8) : formN ⟨7, t, r, i, a, c, y, L, D⟩ = Form.nat 7 ++ Form.nat t ++ Form.nat i ++ Form.nat a ++ Form.text D := by
  unfold formN natsN
  simp only [List.flatMap_cons, List.flatMap_nil]
  rw [show hasR 7 = false from rfl, show hasI 7 = true from rfl, show hasA 7 = true from rfl, show hasC 7 = false from rfl, show hasY 7 = false from rfl]
  rw [show hasL 7 = false from rfl]
  rw [show hasD 7 = true from rfl]
  simp [List.append_assoc]
set_option maxRecDepth 100000 in
set_option maxHeartbeats 12800000 in
theorem rbytes_7_w (t r i a c : Nat) (y : Bool) (pl pd : Option Addr) (cl cd : Nat) (L : List Ent) (D : List UInt8) (S : Foot) (w : World) (h : NtA w S (.slice pl L.length cl) (.slice pd D.length cd) ⟨7, t, r, i, a, c, y, L, D⟩) (hL : L.length ≤ 16) (hLd : ∀ e ∈ L, e.2.length ≤ 3000) (hDl : D.length ≤ 524288) :
    Calls Try.prog 48 #[.agg #[.int .u8 7, .int .u64 (t : Int), .int .u64 (r : Int), .int .u64 (i : Int), .int .u64 (a : Int), .int .u64 (c : Int), .bool y, .slice pl L.length cl, .slice pd D.length cd]] w fun e w' => (∃ pp nn kk, e = .returned (.slice pp nn kk) ∧ OB w' w.heap.size 5 (.slice pp nn kk) (Form.nat 7 ++ Form.nat t ++ Form.nat i ++ Form.nat a ++ Form.text D)) ∧ Below w.heap.size w w' := by
  have ht : t < 2 ^ 64 := h.term
  have hr : r < 2 ^ 64 := h.round
  have hi : i < 2 ^ 64 := h.index
  have ha : a < 2 ^ 64 := h.at_
  have hc : c < 2 ^ 64 := h.commit
  have hB0 := (Below.refl w.heap.size w).alloc (Nat.le_refl _) (.cells #[.int .u8 7, .int .u64 (t : Int), .int .u64 (r : Int), .int .u64 (i : Int), .int .u64 (a : Int), .int .u64 (c : Int), .bool y, .slice pl L.length cl, .slice pd D.length cd] 31)
  have HB0 := Lib.hid hB0
  have hN0 := NcAt.new w #[.int .u8 7, .int .u64 (t : Int), .int .u64 (r : Int), .int .u64 (i : Int), .int .u64 (a : Int), .int .u64 (c : Int), .bool y, .slice pl L.length cl, .slice pd D.length cd]
  have H := Lib.hid (h.mono (S' := fun b => b < w.heap.size) fun b hb _ => hb)
  have HLd := Lib.hid hLd
  have e18 : IntKind.u64.wrap (7 : Int) = 7 := by decide
  have eL : IntKind.u64.wrap (L.length : Int) = (L.length : Int) := IntWalk.u64_in _ (by omega)
  have lt := Form.nat_len10 ht
  have lr := Form.nat_len10 hr
  have li := Form.nat_len10 hi
  have la := Form.nat_len10 ha
  have lc := Form.nat_len10 hc
  have lL := Form.nat_len10 (n := L.length) (by omega)
  have lk := Form.nat_len10 (n := 7) (by decide)
  have ly := flag_len y
  have lD := text_len D (by omega)
  have HLen := Lib.hid (And.intro lk (And.intro lt (And.intro lr (And.intro li (And.intro la (And.intro lc (And.intro lL (And.intro ly lD))))))))
  generalize hW : w.alloc (.cells #[.int .u8 7, .int .u64 (t : Int), .int .u64 (r : Int), .int .u64 (i : Int), .int .u64 (a : Int), .int .u64 (c : Int), .bool y, .slice pl L.length cl, .slice pd D.length cd] 31) = w0 at *
  have HN := Lib.hid hN0
  have hsz : w.heap.size < w0.heap.size := hN0.lt
  have HX := Lib.hid (fun (W : World) (f : Nat) (hk : Keeps w0 W) => (show W.cell? ⟨w.heap.size, f, none⟩ = (#[.int .u8 7, .int .u64 (t : Int), .int .u64 (r : Int), .int .u64 (i : Int), .int .u64 (a : Int), .int .u64 (c : Int), .bool y, .slice pl L.length cl, .slice pd D.length cd] : Array Value)[f]? from cell_of_row _ _ _ _ _ _ (HN.out.keeps hk)))
  clear hB0 hN0 h hLd lt lr li la lc lL lk ly lD
  go_enter Try.func48, Try.ntmps48
  go_wp2
  clear hW
  apply RegT.wp_region_T rfl 142 9 rfl (by kernel_rfl) (RegT.Under w0.heap.size) (RegT.Under.refl _) (RegT.Under.trans _)
  · apply RegT.T_pure rfl rfl rfl
    · intro W hR; clear hR; go_simp; rfl
    simp only [List.set_cons_succ, List.set_cons_zero, Nat.reduceAdd]
    apply RegT.T_pure (v := .int .u8 7) rfl rfl rfl
    · intro W hR
      have hc := HX.out W 0 ((Keeps.refl w0).drew.trans (hR (Nat.le_refl _)).1.block)
      clear hR
      go_simp
    simp only [List.set_cons_succ, List.set_cons_zero, Nat.reduceAdd]
    apply RegT.T_pure (v := .int .u64 7) rfl rfl rfl
    · intro W hR; clear hR; go_simp
    simp only [List.set_cons_succ, List.set_cons_zero, Nat.reduceAdd]
    apply RegT.T_predC rfl rfl rfl 7 (AccP w0.heap.size (Form.nat 7)) (RegT.Under.grow _) (fun y x z hR h => h.keeps hR.block)
    · intro W hR hf
      have hsz := (hR (Nat.le_refl _)).2
      have Hc := Lib.hid (refnat_w 7 W (by decide))
      clear hR hf
      go_simp
      exact RegT.OpOK_enter Hc.out (fun e w' ⟨p, k, c, he, ho, hk, hB⟩ => ⟨_, he, ⟨p, k, c, rfl, hk, OB.lower ho hsz⟩, hB⟩)
    intro v3
    simp only [List.set_cons_succ, List.set_cons_zero, Nat.reduceAdd]
    apply RegT.T_pure rfl rfl rfl
    · intro W hR; clear hR; go_simp; rfl
    simp only [List.set_cons_succ, List.set_cons_zero, Nat.reduceAdd]
    apply RegT.T_pure (v := .int .u64 (t : Int)) rfl rfl rfl
    · intro W hR
      have hc := HX.out W 1 ((Keeps.refl w0).drew.trans (hR (Nat.le_refl _)).1.block)
      clear hR
      go_simp
    simp only [List.set_cons_succ, List.set_cons_zero, Nat.reduceAdd]
    apply RegT.T_predC rfl rfl rfl 7 (AccP w0.heap.size (Form.nat t)) (RegT.Under.grow _) (fun y x z hR h => h.keeps hR.block)
    · intro W hR hf
      have hsz := (hR (Nat.le_refl _)).2
      have Hc := Lib.hid (refnat_w t W ht)
      clear hR hf
      go_simp
      exact RegT.OpOK_enter Hc.out (fun e w' ⟨p, k, c, he, ho, hk, hB⟩ => ⟨_, he, ⟨p, k, c, rfl, hk, OB.lower ho hsz⟩, hB⟩)
    intro v6
    simp only [List.set_cons_succ, List.set_cons_zero, Nat.reduceAdd]
    apply RegT.T_write rfl rfl rfl none (AccP w0.heap.size (Form.nat 7 ++ Form.nat t)) (fun y x z hR h => h.keeps hR.block)
    · intro W hR hf
      have hsz := (hR (Nat.le_refl _)).2
      have h3 : AccP w0.heap.size (Form.nat 7) v3 W := hf _ (.tail _ (.head _)) (by kernel_rfl) (.inr rfl)
      have h6 : AccP w0.heap.size (Form.nat t) v6 W := hf _ (.head _) (by kernel_rfl) (.inr rfl)
      obtain ⟨p3, n3, c3, rfl, hn3, ho3⟩ := h3
      obtain ⟨p6, n6, c6, rfl, hn6, ho6⟩ := h6
      obtain ⟨p, n, c, w', hr', h4, h5⟩ := append29_run ho3 ho6.rd (by have := HLen.out; omega) hsz 29
      exact append_ok (.tmp 8) (.tmp 11) rfl rfl rfl hr' ⟨⟨p, n, c, rfl, RdB_len h4.rd, h4⟩, fun _ => ⟨below_own ho3 h5 hsz, Nat.le_trans hsz h5.size⟩⟩
    intro v7
    simp only [List.set_cons_succ, List.set_cons_zero, Nat.reduceAdd]
    apply RegT.T_pure rfl rfl rfl
    · intro W hR; clear hR; go_simp; rfl
    simp only [List.set_cons_succ, List.set_cons_zero, Nat.reduceAdd]
    refine RegT.T_end rfl (fun W0 hR hf => ?_)
    have hy : AccP w0.heap.size (Form.nat 7 ++ Form.nat t) v7 W0 := hf _ (.head _) (.inl rfl)
    obtain ⟨p0, n0, c0, rfl, hn0, ho0⟩ := hy
    have HO0 := Lib.hid ho0
    have HK0 := Lib.hid (show Below w0.heap.size w0 W0 ∧ Below w.heap.size w W0 ∧ w0.heap.size ≤ W0.heap.size from ⟨(Below.refl w0.heap.size w0).drew.trans (hR (Nat.le_refl _)).1, HB0.out.trans (((Below.refl w0.heap.size w0).drew.trans (hR (Nat.le_refl _)).1).mono (Nat.le_of_lt hsz)), (hR (Nat.le_refl _)).2⟩)
    clear hR hf ho0 hn0
    have xk : W0.cell? ⟨w.heap.size, 0, none⟩ = some (.int .u8 7) := HX.out W0 0 HK0.out.1.block
    have x0 : W0.cell? ⟨w.heap.size, 3, none⟩ = some (.int .u64 (i : Int)) := HX.out W0 3 HK0.out.1.block
    go_wp2_with (first
      | (go_at_call 95; go_loud ((with_reducible refine (refnat_w i _ hi).mono ?_); rintro e V0 ⟨q0, k0, d0, rfl, hq, hkq, hB⟩; have HO0b := Lib.hid (HO0.out.keeps hB.block); have HQ0 := Lib.hid hq.rd; have HK0b := Lib.hid (And.intro (HK0.out.1.trans (hB.mono HK0.out.2.2)) (And.intro (HK0.out.2.1.trans (hB.mono HK0.out.2.1.size)) (Nat.le_trans HK0.out.2.2 hB.size))); clear hq hkq hB HO0 HK0))
      | (at_builtin; go_loud (refine wpList_append_bytes rfl (.tmp 126) (.tmp 129) 29 rfl hel rfl HO0b.out rfl HQ0.out (by have := HLen.out; simp only [List.length_append]; omega) HK0b.out.2.2 ?_; intro p1 n1 c1 W1 hn ho hg; have HO1 := Lib.hid ho; have HK1 := Lib.hid (And.intro (HK0b.out.1.trans (below_own HO0b.out hg HK0b.out.2.2)) (And.intro (HK0b.out.2.1.trans ((below_own HO0b.out hg HK0b.out.2.2).mono (Nat.le_of_lt hsz))) (Nat.le_trans HK0b.out.2.2 hg.size))); have x1 : W1.cell? ⟨w.heap.size, 4, none⟩ = some (.int .u64 (a : Int)) := HX.out W1 4 HK1.out.1.block; clear hn ho hg HO0b HK0b HQ0))
      | (go_at_call 95; go_loud ((with_reducible refine (refnat_w a _ ha).mono ?_); rintro e V1 ⟨q1, k1, d1, rfl, hq, hkq, hB⟩; have HO1b := Lib.hid (HO1.out.keeps hB.block); have HQ1 := Lib.hid hq.rd; have HK1b := Lib.hid (And.intro (HK1.out.1.trans (hB.mono HK1.out.2.2)) (And.intro (HK1.out.2.1.trans (hB.mono HK1.out.2.1.size)) (Nat.le_trans HK1.out.2.2 hB.size))); clear hq hkq hB HO1 HK1))
      | (at_builtin; go_loud (refine wpList_append_bytes rfl (.tmp 131) (.tmp 134) 29 rfl hel rfl HO1b.out rfl HQ1.out (by have := HLen.out; simp only [List.length_append]; omega) HK1b.out.2.2 ?_; intro p2 n2 c2 W2 hn ho hg; have HO2 := Lib.hid ho; have HK2 := Lib.hid (And.intro (HK1b.out.1.trans (below_own HO1b.out hg HK1b.out.2.2)) (And.intro (HK1b.out.2.1.trans ((below_own HO1b.out hg HK1b.out.2.2).mono (Nat.le_of_lt hsz))) (Nat.le_trans HK1b.out.2.2 hg.size))); have x2 : W2.cell? ⟨w.heap.size, 8, none⟩ = some (.slice pd D.length cd) := HX.out W2 8 HK2.out.1.block; have HQD := Lib.hid (show RdB W2 (.slice pd D.length cd) D from H.out.d.rd.keeps (show Keeps w W2 from fun b hb => HK2.out.2.1.block b hb)); clear hn ho hg HO1b HK1b HQ1))
      | (go_at_call 97; go_loud ((with_reducible refine (reftext_w _ D _ HQD.out (by omega)).mono ?_); rintro e V2 ⟨q2, k2, d2, rfl, hq, hkq, hB⟩; have HO2b := Lib.hid (HO2.out.keeps hB.block); have HQ2 := Lib.hid hq.rd; have HK2b := Lib.hid (And.intro (HK2.out.1.trans (hB.mono HK2.out.2.2)) (And.intro (HK2.out.2.1.trans (hB.mono HK2.out.2.1.size)) (Nat.le_trans HK2.out.2.2 hB.size))); clear hq hkq hB HO2 HK2))
      | (at_builtin; go_loud (refine wpList_append_bytes rfl (.tmp 136) (.tmp 139) 29 rfl hel rfl HO2b.out rfl HQ2.out (by have := HLen.out; simp only [List.length_append]; omega) HK2b.out.2.2 ?_; intro p3 n3 c3 W3 hn ho hg; have HO3 := Lib.hid ho; have HK3 := Lib.hid (And.intro (HK2b.out.1.trans (below_own HO2b.out hg HK2b.out.2.2)) (And.intro (HK2b.out.2.1.trans ((below_own HO2b.out hg HK2b.out.2.2).mono (Nat.le_of_lt hsz))) (Nat.le_trans HK2b.out.2.2 hg.size))); clear hn ho hg HO2b HK2b HQ2)))
    go_ret
    exact ⟨⟨_, _, _, rfl, OB.lower HO3.out (Nat.le_of_lt hsz)⟩, HK3.out.2.1⟩
  · rfl
  · kernel_rfl
end Go.Proofs.Yteellfgiejnigaa
