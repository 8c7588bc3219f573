/- What a command is written as: words.Command, kind by kind. -/
import Derived.Test.YtoflehlkacofjaaQfA4
import Derived.Deep.Cut
import Derived.Deep.MidRow
namespace Go.Proofs.Ytoflehlkacofjaa
open Go.ChangeShapes Go.WideShapes Go.ChangeAt Go.RowKit
set_option linter.unusedVariables false
/-- What Command answers of a command that may be. -/
def CmdY (w : World) (F : List UInt8) (e : Ending) (w' : World) : Prop := (∃ p n c, e = .returned (.tuple #[.slice p n c, .int .i64 0]) ∧ n = F.length ∧ OB w' w.heap.size 5 (.slice p n c) F) ∧ Below w.heap.size w w'
/-- The bytes' variable, made behind what they are. -/
theorem CS.made {w W W3 : World} {cx : Array Value} {v : Value} {l : List UInt8} (hc : CcAt W w.heap.size cx) (hB : Below w.heap.size w W) (hg : W.grownBy W3 none) (ho : OB W3 w.heap.size 5 v l) (hn : Near W (.slice none 0 0) v) (hs : w.heap.size < W.heap.size) :
    CS w (W3.alloc (.cells #[v] 39)) cx W3.heap.size v l := by
  have hk : Keeps W W3 := fun k hk => hg.block k hk (by simp)
  have h3 : Below w.heap.size w W3 := hB.grown hg hB.size (fun k e => by cases e)
  refine ⟨(hc.keeps hk).keeps ((Keeps.refl _).alloc _), heap_alloc_new _ _, ho.alloc _, fun e => ?_, ?_, Nat.lt_of_lt_of_le hs hg.size, h3.alloc h3.size _⟩
  · have := (ho.lt _ e).2; omega
  · rcases hn with e | ⟨g, e, hg⟩
    · rw [e]; intro h; cases h
    · rw [e]; intro h; cases h; omega
theorem take_lit {P : Program} {md : Region.Mode} {ops : Array Oper} {Q : Exit → Act → World → Prop} {S : World → Prop} {i d : Nat} {oi : Oper} {v : Value} {fuel : Nat} {listed : Array Bool} {l : List Value} {df : List Deferred} {w : World} (hi : ops[i]? = some oi) (hd : oi.dst = some d)
    (hs : Region.noSelect ops = true) (hf : Region.free md ops listed i = true) (hr : (Region.ready md ops listed).contains i = true)
    (hQ : ∀ c a w, Q (.panic c) (a.put oi.dst v) w → Q (.panic c) a w) (hy : YieldsIf P ops S oi v ⟨l.toArray, df⟩) (hS : S w)
    (h : wpAnyH P md ops Q S fuel (listed.setIfInBounds i true) ⟨(l.set d v).toArray, df⟩ w) : wpAnyH P md ops Q S (fuel + 1) listed ⟨l.toArray, df⟩ w :=
  wpAnyH_take hi hs hf hr hQ hy hS (by rw [RegT.put_lit _ _ _ _ hd]; exact h)
theorem CS.bvar {w W W' : World} {cx : Array Value} {B : Nat} {v : Value} {l : List UInt8} (h : CS w W cx B v l) (hg : W.grownBy W' v.ownBlock) : W'.cell? ⟨B, 0, none⟩ = some v := cell_of_row _ _ _ _ _ _ (h.bg hg)
theorem CS.bthaw {w W W' : World} {cx : Array Value} {B : Nat} {v : Value} {l : List UInt8} (h : CS w W cx B v l) (hg : W.grownBy W' v.ownBlock) : W'.frozen? ⟨B, 0, none⟩ = false := by
  have hb := h.bg hg
  simp [World.frozen?, hb]
theorem nat2_z (base : Nat) (v : Value) (l : List UInt8) (z : Int) (n : Nat) (hz : z = (n : Int)) (w : World) (ho : OB w base 5 v l) (hn : n < 2 ^ 64) (hl : l.length ≤ 1000000) (hb : base ≤ w.heap.size) :
    Calls Try.prog 25 #[v, .int .u64 z] w fun e w' => ∃ p k c, e = .returned (.slice p k c) ∧ k = (l ++ Form.nat n).length ∧ OB w' base 5 (.slice p k c) (l ++ Form.nat n) ∧ w.grownBy w' v.ownBlock ∧ Near w v (.slice p k c) := by
  subst hz; exact nat2_w base v l n w ho hn hl hb

set_option maxRecDepth 100000 in
set_option maxHeartbeats 6400000 in
theorem cmd_1_w (a n u : Nat) (m : Int) (s : Sp) (o b : Bool) (z : Nat) (p q : Int) (w : World) (cx : Array Value) (hcx : cx = cmc 1 a n u m s o b z p q) (ha : a < 2 ^ 32) (hn : n < 2 ^ 32) (hu : u < 2 ^ 64) (hm : Sp.i64 m) (hs : s.ok) (hz : z < 256) (hp : Sp.i64 p) (hq : Sp.i64 q)
    (hM : ∀ W, Calls Try.prog 19 #[.agg cx] W fun e w' => e = .returned (.bool true) ∧ Below W.heap.size W w') :
    Calls Try.prog 10 #[.agg cx] w (CmdY w (((Form.nat 1 ++ Form.nat a) ++ Form.nat (Form.fold m)))) := by
  obtain ⟨hm1, hm2⟩ : -9223372036854775808 ≤ m ∧ m ≤ 9223372036854775807 := hm
  obtain ⟨hp1, hp2⟩ : -9223372036854775808 ≤ p ∧ p ≤ 9223372036854775807 := hp
  have hsz : cx.size = 35 := by rw [hcx]; rfl
  have HM := Lib.hid hM
  have HX := Lib.hid (CcAt.new w cx)
  have HB0 := Lib.hid ((Below.refl w.heap.size w).alloc (Nat.le_refl _) (.cells cx 30))
  have Len0 := Lib.hid (show (Form.nat a).length ≤ 10 from Form.nat_len10 (by omega))
  have Len1 := Lib.hid (show (Form.nat (Form.fold m)).length ≤ 10 from Form.nat_len10 (Form.fold_lt hm1 hm2))
  have LenK := Lib.hid (show (Form.nat 1).length ≤ 10 from Form.nat_len10 (by decide))
  have X1 := Lib.hid (show cx[1]? = some (.int .u32 (a : Int)) by rw [hcx]; rfl)
  have X4 := Lib.hid (show cx[4]? = some (.int .i64 m) by rw [hcx]; rfl)
  have X0 := Lib.hid (show cx[0]? = some (.int .u8 (1 : Int)) by rw [hcx]; rfl)
  clear hcx hM
  go_enter Try.func10, Try.ntmps10
  go_upto_region 4 with (first
    | (refine wpList_load_cc rfl (.tmp 1) rfl rfl HX.out hsz ?_)
    | (go_at_call 19; (with_reducible refine (HM.out _).mono ?_); rintro r w2 ⟨rfl, hB⟩; have HX2 := Lib.hid (HX.out.keeps hB.block); have HB2 := Lib.hid (HB0.out.trans (hB.mono HB0.out.size)); have x0 := (HX2.out.at 0).trans X0.out; have hb2 : w.heap.size ≤ w2.heap.size := HB2.out.size; clear hB)
    | (go_at_call 25; (with_reducible refine (nat2_z w.heap.size (.slice none 0 0) [] 1 1 rfl w2 (OB.nil w2 _ _) (by decide) (by decide) hb2).mono ?_); rintro r w3 ⟨p0, k0, c0, rfl, hk0, ho0, hg0, hn0⟩; have HC0 := Lib.hid (CS.made HX2.out HB2.out hg0 (by have h := ho0; rw [List.nil_append] at h; exact h) hn0 HX2.out.lt); rw [List.nil_append] at hk0; have HK := Lib.hid hk0; clear hk0 ho0 hg0 hn0))
  obtain ⟨l0, hl0⟩ : ∃ x, Form.nat 1 = x := ⟨_, rfl⟩
  rw [hl0] at HC0 HK
  have HL0 := Lib.hid hl0
  have HK0 := HK
  clear hl0 HK
  obtain ⟨W0, hW0⟩ : ∃ W0, w3.alloc (.cells #[.slice p0 k0 c0] 39) = W0 := ⟨_, rfl⟩
  rw [hW0] at HC0
  rw [hW0]
  obtain ⟨B, hBe⟩ : ∃ B, w3.heap.size = B := ⟨_, rfl⟩
  rw [hBe] at HC0
  rw [hBe]
  clear hW0 hBe x0 HX2 HB2 hb2 HX HB0
  have LB0 := Lib.hid (show l0.length ≤ 10 from by have h := LenK.out; rw [HL0.out] at h; exact h)
  have y0_0 := (HC0.out.at 0).trans X0.out
  have yv0 := HC0.out.var
  have yf0 := HC0.out.thaw
  have y1_0 := (HC0.out.at 1).trans X1.out
  have y4_0 := (HC0.out.at 4).trans X4.out
  go_wp2_with (first
    | (go_at_call 26; (with_reducible refine (acc_w a cx B _ l0 w _ HC0.out X1.out ha (Nat.le_trans LB0.out (by decide))).mono ?_); rintro e W1 ⟨rfl, v1, hC⟩; obtain ⟨l1, hl1⟩ : ∃ x, l0 ++ Form.nat a = x := ⟨_, rfl⟩; rw [hl1] at hC; have HL1 := Lib.hid hl1; have LB1 := Lib.hid (show l1.length ≤ 20 from by (have h1 := LB0.out; have h2 := Len0.out; rw [← hl1, List.length_append]; omega)); obtain ⟨p1, c1, rfl⟩ := hC.ob.form; have HC1 := Lib.hid hC; clear hC hl1; have yv1 := HC1.out.var; have yf1 := HC1.out.thaw; have y1_1 := (HC1.out.at 1).trans X1.out; have y4_1 := (HC1.out.at 4).trans X4.out)
    | (go_at_call 28; (with_reducible refine (int2_w w.heap.size _ l1 m _ HC1.out.ob hm1 hm2 (Nat.le_trans LB1.out (by decide)) HC1.out.size).mono ?_); rintro e W2 ⟨p2, k2, c2, rfl, hk2, ho, hg, hr⟩; obtain ⟨l2, hl2⟩ : ∃ x, l1 ++ Form.nat (Form.fold m) = x := ⟨_, rfl⟩; rw [hl2] at hk2 ho; have HL2 := Lib.hid hl2; have HK2 := Lib.hid hk2; have LB2 := Lib.hid (show l2.length ≤ 30 from by (have h1 := LB1.out; have h2 := Len1.out; rw [← hl2, List.length_append]; omega)); have HC2 := Lib.hid (HC1.out.write hg hr ho); have yb2 : W2.cell? ⟨B, 0, none⟩ = some (.slice p1 l1.length c1) := HC1.out.bvar hg; have yc2 : W2.frozen? ⟨B, 0, none⟩ = false := HC1.out.bthaw hg; clear ho hg hr hk2 hl2; have yv2 := HC2.out.var; have yf2 := HC2.out.thaw; have y1_2 := (HC2.out.at 1).trans X1.out; have y4_2 := (HC2.out.at 4).trans X4.out))
  have hF : ((Form.nat 1 ++ Form.nat a) ++ Form.nat (Form.fold m)) = l2 := by rw [HL0.out, HL1.out, HL2.out]
  rw [hF]
  go_ret2
  exact ⟨⟨_, _, _, rfl, HK2.out, HC2.out.ob⟩, HC2.out.below⟩
set_option maxRecDepth 100000 in
set_option maxHeartbeats 6400000 in
theorem cmd_2_w (a n u : Nat) (m : Int) (s : Sp) (o b : Bool) (z : Nat) (p q : Int) (w : World) (cx : Array Value) (hcx : cx = cmc 2 a n u m s o b z p q) (ha : a < 2 ^ 32) (hn : n < 2 ^ 32) (hu : u < 2 ^ 64) (hm : Sp.i64 m) (hs : s.ok) (hz : z < 256) (hp : Sp.i64 p) (hq : Sp.i64 q)
    (hM : ∀ W, Calls Try.prog 19 #[.agg cx] W fun e w' => e = .returned (.bool true) ∧ Below W.heap.size W w') :
    Calls Try.prog 10 #[.agg cx] w (CmdY w (((Form.nat 2 ++ Form.nat a) ++ Form.nat (Form.fold m)))) := by
  obtain ⟨hm1, hm2⟩ : -9223372036854775808 ≤ m ∧ m ≤ 9223372036854775807 := hm
  obtain ⟨hp1, hp2⟩ : -9223372036854775808 ≤ p ∧ p ≤ 9223372036854775807 := hp
  have hsz : cx.size = 35 := by rw [hcx]; rfl
  have HM := Lib.hid hM
  have HX := Lib.hid (CcAt.new w cx)
  have HB0 := Lib.hid ((Below.refl w.heap.size w).alloc (Nat.le_refl _) (.cells cx 30))
  have Len0 := Lib.hid (show (Form.nat a).length ≤ 10 from Form.nat_len10 (by omega))
  have Len1 := Lib.hid (show (Form.nat (Form.fold m)).length ≤ 10 from Form.nat_len10 (Form.fold_lt hm1 hm2))
  have LenK := Lib.hid (show (Form.nat 2).length ≤ 10 from Form.nat_len10 (by decide))
  have X1 := Lib.hid (show cx[1]? = some (.int .u32 (a : Int)) by rw [hcx]; rfl)
  have X4 := Lib.hid (show cx[4]? = some (.int .i64 m) by rw [hcx]; rfl)
  have X0 := Lib.hid (show cx[0]? = some (.int .u8 (2 : Int)) by rw [hcx]; rfl)
  clear hcx hM
  go_enter Try.func10, Try.ntmps10
  go_upto_region 4 with (first
    | (refine wpList_load_cc rfl (.tmp 1) rfl rfl HX.out hsz ?_)
    | (go_at_call 19; (with_reducible refine (HM.out _).mono ?_); rintro r w2 ⟨rfl, hB⟩; have HX2 := Lib.hid (HX.out.keeps hB.block); have HB2 := Lib.hid (HB0.out.trans (hB.mono HB0.out.size)); have x0 := (HX2.out.at 0).trans X0.out; have hb2 : w.heap.size ≤ w2.heap.size := HB2.out.size; clear hB)
    | (go_at_call 25; (with_reducible refine (nat2_z w.heap.size (.slice none 0 0) [] 2 2 rfl w2 (OB.nil w2 _ _) (by decide) (by decide) hb2).mono ?_); rintro r w3 ⟨p0, k0, c0, rfl, hk0, ho0, hg0, hn0⟩; have HC0 := Lib.hid (CS.made HX2.out HB2.out hg0 (by have h := ho0; rw [List.nil_append] at h; exact h) hn0 HX2.out.lt); rw [List.nil_append] at hk0; have HK := Lib.hid hk0; clear hk0 ho0 hg0 hn0))
  obtain ⟨l0, hl0⟩ : ∃ x, Form.nat 2 = x := ⟨_, rfl⟩
  rw [hl0] at HC0 HK
  have HL0 := Lib.hid hl0
  have HK0 := HK
  clear hl0 HK
  obtain ⟨W0, hW0⟩ : ∃ W0, w3.alloc (.cells #[.slice p0 k0 c0] 39) = W0 := ⟨_, rfl⟩
  rw [hW0] at HC0
  rw [hW0]
  obtain ⟨B, hBe⟩ : ∃ B, w3.heap.size = B := ⟨_, rfl⟩
  rw [hBe] at HC0
  rw [hBe]
  clear hW0 hBe x0 HX2 HB2 hb2 HX HB0
  have LB0 := Lib.hid (show l0.length ≤ 10 from by have h := LenK.out; rw [HL0.out] at h; exact h)
  have y0_0 := (HC0.out.at 0).trans X0.out
  have yv0 := HC0.out.var
  have yf0 := HC0.out.thaw
  have y1_0 := (HC0.out.at 1).trans X1.out
  have y4_0 := (HC0.out.at 4).trans X4.out
  go_wp2_with (first
    | (go_at_call 26; (with_reducible refine (acc_w a cx B _ l0 w _ HC0.out X1.out ha (Nat.le_trans LB0.out (by decide))).mono ?_); rintro e W1 ⟨rfl, v1, hC⟩; obtain ⟨l1, hl1⟩ : ∃ x, l0 ++ Form.nat a = x := ⟨_, rfl⟩; rw [hl1] at hC; have HL1 := Lib.hid hl1; have LB1 := Lib.hid (show l1.length ≤ 20 from by (have h1 := LB0.out; have h2 := Len0.out; rw [← hl1, List.length_append]; omega)); obtain ⟨p1, c1, rfl⟩ := hC.ob.form; have HC1 := Lib.hid hC; clear hC hl1; have yv1 := HC1.out.var; have yf1 := HC1.out.thaw; have y1_1 := (HC1.out.at 1).trans X1.out; have y4_1 := (HC1.out.at 4).trans X4.out)
    | (go_at_call 28; (with_reducible refine (int2_w w.heap.size _ l1 m _ HC1.out.ob hm1 hm2 (Nat.le_trans LB1.out (by decide)) HC1.out.size).mono ?_); rintro e W2 ⟨p2, k2, c2, rfl, hk2, ho, hg, hr⟩; obtain ⟨l2, hl2⟩ : ∃ x, l1 ++ Form.nat (Form.fold m) = x := ⟨_, rfl⟩; rw [hl2] at hk2 ho; have HL2 := Lib.hid hl2; have HK2 := Lib.hid hk2; have LB2 := Lib.hid (show l2.length ≤ 30 from by (have h1 := LB1.out; have h2 := Len1.out; rw [← hl2, List.length_append]; omega)); have HC2 := Lib.hid (HC1.out.write hg hr ho); have yb2 : W2.cell? ⟨B, 0, none⟩ = some (.slice p1 l1.length c1) := HC1.out.bvar hg; have yc2 : W2.frozen? ⟨B, 0, none⟩ = false := HC1.out.bthaw hg; clear ho hg hr hk2 hl2; have yv2 := HC2.out.var; have yf2 := HC2.out.thaw; have y1_2 := (HC2.out.at 1).trans X1.out; have y4_2 := (HC2.out.at 4).trans X4.out))
  have hF : ((Form.nat 2 ++ Form.nat a) ++ Form.nat (Form.fold m)) = l2 := by rw [HL0.out, HL1.out, HL2.out]
  rw [hF]
  go_ret2
  exact ⟨⟨_, _, _, rfl, HK2.out, HC2.out.ob⟩, HC2.out.below⟩
set_option maxRecDepth 100000 in
set_option maxHeartbeats 6400000 in
theorem cmd_3_w (a n u : Nat) (m : Int) (s : Sp) (o b : Bool) (z : Nat) (p q : Int) (w : World) (cx : Array Value) (hcx : cx = cmc 3 a n u m s o b z p q) (ha : a < 2 ^ 32) (hn : n < 2 ^ 32) (hu : u < 2 ^ 64) (hm : Sp.i64 m) (hs : s.ok) (hz : z < 256) (hp : Sp.i64 p) (hq : Sp.i64 q) (hsm : s.mayB = true)
    (hM : ∀ W, Calls Try.prog 19 #[.agg cx] W fun e w' => e = .returned (.bool true) ∧ Below W.heap.size W w') :
    Calls Try.prog 10 #[.agg cx] w (CmdY w ((Form.nat 3 ++ s.form))) := by
  obtain ⟨hm1, hm2⟩ : -9223372036854775808 ≤ m ∧ m ≤ 9223372036854775807 := hm
  obtain ⟨hp1, hp2⟩ : -9223372036854775808 ≤ p ∧ p ≤ 9223372036854775807 := hp
  have hsz : cx.size = 35 := by rw [hcx]; rfl
  have HM := Lib.hid hM
  have HX := Lib.hid (CcAt.new w cx)
  have HB0 := Lib.hid ((Below.refl w.heap.size w).alloc (Nat.le_refl _) (.cells cx 30))
  have LenK := Lib.hid (show (Form.nat 3).length ≤ 10 from Form.nat_len10 (by decide))
  have Xs := Lib.hid (show ∀ j v, s.cells.toList[j]? = some v → cx[5 + j]? = some v by rw [hcx]; exact cmc_spec _ _ _ _ _ _ _ _ _ _ _)
  have Hs := Lib.hid hs
  have X0 := Lib.hid (show cx[0]? = some (.int .u8 (3 : Int)) by rw [hcx]; rfl)
  clear hcx hM
  go_enter Try.func10, Try.ntmps10
  go_upto_region 4 with (first
    | (refine wpList_load_cc rfl (.tmp 1) rfl rfl HX.out hsz ?_)
    | (go_at_call 19; (with_reducible refine (HM.out _).mono ?_); rintro r w2 ⟨rfl, hB⟩; have HX2 := Lib.hid (HX.out.keeps hB.block); have HB2 := Lib.hid (HB0.out.trans (hB.mono HB0.out.size)); have x0 := (HX2.out.at 0).trans X0.out; have hb2 : w.heap.size ≤ w2.heap.size := HB2.out.size; clear hB)
    | (go_at_call 25; (with_reducible refine (nat2_z w.heap.size (.slice none 0 0) [] 3 3 rfl w2 (OB.nil w2 _ _) (by decide) (by decide) hb2).mono ?_); rintro r w3 ⟨p0, k0, c0, rfl, hk0, ho0, hg0, hn0⟩; have HC0 := Lib.hid (CS.made HX2.out HB2.out hg0 (by have h := ho0; rw [List.nil_append] at h; exact h) hn0 HX2.out.lt); rw [List.nil_append] at hk0; have HK := Lib.hid hk0; clear hk0 ho0 hg0 hn0))
  obtain ⟨l0, hl0⟩ : ∃ x, Form.nat 3 = x := ⟨_, rfl⟩
  rw [hl0] at HC0 HK
  have HL0 := Lib.hid hl0
  have HK0 := HK
  clear hl0 HK
  obtain ⟨W0, hW0⟩ : ∃ W0, w3.alloc (.cells #[.slice p0 k0 c0] 39) = W0 := ⟨_, rfl⟩
  rw [hW0] at HC0
  rw [hW0]
  obtain ⟨B, hBe⟩ : ∃ B, w3.heap.size = B := ⟨_, rfl⟩
  rw [hBe] at HC0
  rw [hBe]
  clear hW0 hBe x0 HX2 HB2 hb2 HX HB0
  have LB0 := Lib.hid (show l0.length ≤ 10 from by have h := LenK.out; rw [HL0.out] at h; exact h)
  have y0_0 := (HC0.out.at 0).trans X0.out
  have yv0 := HC0.out.var
  have yf0 := HC0.out.thaw
  have HRx := Lib.hid (show W0.rangeAt w.heap.size 5 s.cells.toList from fun j v hv => by rw [HC0.out.at]; exact Xs.out j v hv)
  go_wp2_with (first
    | (go_at_call 29; (with_reducible refine (put_w w.heap.size _ l0 s _ HC0.out.ob Hs.out (Nat.le_trans LB0.out (by decide)) HC0.out.size hsm).mono ?_); rintro e W1 ⟨p1, k1, c1, rfl, hk1, ho, hg, hr⟩; obtain ⟨l1, hl1⟩ : ∃ x, l0 ++ s.form = x := ⟨_, rfl⟩; rw [hl1] at hk1 ho; have HL1 := Lib.hid hl1; have HK1 := Lib.hid hk1; have HC1 := Lib.hid (HC0.out.write hg hr ho); have yb1 : W1.cell? ⟨B, 0, none⟩ = some (.slice p0 k0 c0) := HC0.out.bvar hg; have yc1 : W1.frozen? ⟨B, 0, none⟩ = false := HC0.out.bthaw hg; clear ho hg hr hk1 hl1; have yv1 := HC1.out.var; have yf1 := HC1.out.thaw)
    | (refine wpList_load_mid rfl 27 (.tmp 30) rfl _ _ rfl s.cells.toList _ HRx.out Try.underlying27 rfl (show _ = some 25 by kernel_rfl) ?_; rw [Array.toArray_toList]))
  have hF : (Form.nat 3 ++ s.form) = l1 := by rw [HL0.out, HL1.out]
  rw [hF]
  go_ret2
  exact ⟨⟨_, _, _, rfl, HK1.out, HC1.out.ob⟩, HC1.out.below⟩
set_option maxRecDepth 100000 in
set_option maxHeartbeats 6400000 in
theorem cmd_4_w (a n u : Nat) (m : Int) (s : Sp) (o b : Bool) (z : Nat) (p q : Int) (w : World) (cx : Array Value) (hcx : cx = cmc 4 a n u m s o b z p q) (ha : a < 2 ^ 32) (hn : n < 2 ^ 32) (hu : u < 2 ^ 64) (hm : Sp.i64 m) (hs : s.ok) (hz : z < 256) (hp : Sp.i64 p) (hq : Sp.i64 q)
    (hM : ∀ W, Calls Try.prog 19 #[.agg cx] W fun e w' => e = .returned (.bool true) ∧ Below W.heap.size W w') :
    Calls Try.prog 10 #[.agg cx] w (CmdY w (((Form.nat 4 ++ Form.nat n) ++ Form.flag o))) := by
  obtain ⟨hm1, hm2⟩ : -9223372036854775808 ≤ m ∧ m ≤ 9223372036854775807 := hm
  obtain ⟨hp1, hp2⟩ : -9223372036854775808 ≤ p ∧ p ≤ 9223372036854775807 := hp
  have hsz : cx.size = 35 := by rw [hcx]; rfl
  have HM := Lib.hid hM
  have HX := Lib.hid (CcAt.new w cx)
  have HB0 := Lib.hid ((Below.refl w.heap.size w).alloc (Nat.le_refl _) (.cells cx 30))
  have Len0 := Lib.hid (show (Form.nat n).length ≤ 10 from Form.nat_len10 (by omega))
  have Len1 := Lib.hid (show (Form.flag o).length = 1 from rfl)
  have LenK := Lib.hid (show (Form.nat 4).length ≤ 10 from Form.nat_len10 (by decide))
  have X2 := Lib.hid (show cx[2]? = some (.int .u32 (n : Int)) by rw [hcx]; rfl)
  have X30 := Lib.hid (show cx[30]? = some (.bool o) by rw [hcx]; rfl)
  have X0 := Lib.hid (show cx[0]? = some (.int .u8 (4 : Int)) by rw [hcx]; rfl)
  clear hcx hM
  go_enter Try.func10, Try.ntmps10
  go_upto_region 4 with (first
    | (refine wpList_load_cc rfl (.tmp 1) rfl rfl HX.out hsz ?_)
    | (go_at_call 19; (with_reducible refine (HM.out _).mono ?_); rintro r w2 ⟨rfl, hB⟩; have HX2 := Lib.hid (HX.out.keeps hB.block); have HB2 := Lib.hid (HB0.out.trans (hB.mono HB0.out.size)); have x0 := (HX2.out.at 0).trans X0.out; have hb2 : w.heap.size ≤ w2.heap.size := HB2.out.size; clear hB)
    | (go_at_call 25; (with_reducible refine (nat2_z w.heap.size (.slice none 0 0) [] 4 4 rfl w2 (OB.nil w2 _ _) (by decide) (by decide) hb2).mono ?_); rintro r w3 ⟨p0, k0, c0, rfl, hk0, ho0, hg0, hn0⟩; have HC0 := Lib.hid (CS.made HX2.out HB2.out hg0 (by have h := ho0; rw [List.nil_append] at h; exact h) hn0 HX2.out.lt); rw [List.nil_append] at hk0; have HK := Lib.hid hk0; clear hk0 ho0 hg0 hn0))
  obtain ⟨l0, hl0⟩ : ∃ x, Form.nat 4 = x := ⟨_, rfl⟩
  rw [hl0] at HC0 HK
  have HL0 := Lib.hid hl0
  have HK0 := HK
  clear hl0 HK
  obtain ⟨W0, hW0⟩ : ∃ W0, w3.alloc (.cells #[.slice p0 k0 c0] 39) = W0 := ⟨_, rfl⟩
  rw [hW0] at HC0
  rw [hW0]
  obtain ⟨B, hBe⟩ : ∃ B, w3.heap.size = B := ⟨_, rfl⟩
  rw [hBe] at HC0
  rw [hBe]
  clear hW0 hBe x0 HX2 HB2 hb2 HX HB0
  have LB0 := Lib.hid (show l0.length ≤ 10 from by have h := LenK.out; rw [HL0.out] at h; exact h)
  have y0_0 := (HC0.out.at 0).trans X0.out
  have yv0 := HC0.out.var
  have yf0 := HC0.out.thaw
  have y2_0 := (HC0.out.at 2).trans X2.out
  have y30_0 := (HC0.out.at 30).trans X30.out
  go_wp2_with (first
    | (go_at_call 27; (with_reducible refine (con_w n cx B _ l0 w _ HC0.out X2.out hn (Nat.le_trans LB0.out (by decide))).mono ?_); rintro e W1 ⟨rfl, v1, hC⟩; obtain ⟨l1, hl1⟩ : ∃ x, l0 ++ Form.nat n = x := ⟨_, rfl⟩; rw [hl1] at hC; have HL1 := Lib.hid hl1; have LB1 := Lib.hid (show l1.length ≤ 20 from by (have h1 := LB0.out; have h2 := Len0.out; rw [← hl1, List.length_append]; omega)); obtain ⟨p1, c1, rfl⟩ := hC.ob.form; have HC1 := Lib.hid hC; clear hC hl1; have yv1 := HC1.out.var; have yf1 := HC1.out.thaw; have y2_1 := (HC1.out.at 2).trans X2.out; have y30_1 := (HC1.out.at 30).trans X30.out)
    | (go_at_call 30; (with_reducible refine (flag2_w w.heap.size _ l1 o _ HC1.out.ob (Nat.le_trans LB1.out (by decide)) HC1.out.size).mono ?_); rintro e W2 ⟨p2, k2, c2, rfl, hk2, ho, hg, hr⟩; obtain ⟨l2, hl2⟩ : ∃ x, l1 ++ Form.flag o = x := ⟨_, rfl⟩; rw [hl2] at hk2 ho; have HL2 := Lib.hid hl2; have HK2 := Lib.hid hk2; have LB2 := Lib.hid (show l2.length ≤ 30 from by (have h1 := LB1.out; have h2 := Len1.out; rw [← hl2, List.length_append]; omega)); have HC2 := Lib.hid (HC1.out.write hg hr ho); have yb2 : W2.cell? ⟨B, 0, none⟩ = some (.slice p1 l1.length c1) := HC1.out.bvar hg; have yc2 : W2.frozen? ⟨B, 0, none⟩ = false := HC1.out.bthaw hg; clear ho hg hr hk2 hl2; have yv2 := HC2.out.var; have yf2 := HC2.out.thaw; have y2_2 := (HC2.out.at 2).trans X2.out; have y30_2 := (HC2.out.at 30).trans X30.out))
  have hF : ((Form.nat 4 ++ Form.nat n) ++ Form.flag o) = l2 := by rw [HL0.out, HL1.out, HL2.out]
  rw [hF]
  go_ret2
  exact ⟨⟨_, _, _, rfl, HK2.out, HC2.out.ob⟩, HC2.out.below⟩
set_option maxRecDepth 100000 in
set_option maxHeartbeats 6400000 in
theorem cmd_5_w (a n u : Nat) (m : Int) (s : Sp) (o b : Bool) (z : Nat) (p q : Int) (w : World) (cx : Array Value) (hcx : cx = cmc 5 a n u m s o b z p q) (ha : a < 2 ^ 32) (hn : n < 2 ^ 32) (hu : u < 2 ^ 64) (hm : Sp.i64 m) (hs : s.ok) (hz : z < 256) (hp : Sp.i64 p) (hq : Sp.i64 q)
    (hM : ∀ W, Calls Try.prog 19 #[.agg cx] W fun e w' => e = .returned (.bool true) ∧ Below W.heap.size W w') :
    Calls Try.prog 10 #[.agg cx] w (CmdY w ((((((Form.nat 5 ++ Form.nat a) ++ Form.nat n) ++ Form.flag b) ++ Form.nat z) ++ (Form.nat (Form.fold p) ++ Form.nat (Form.fold q))))) := by
  obtain ⟨hm1, hm2⟩ : -9223372036854775808 ≤ m ∧ m ≤ 9223372036854775807 := hm
  obtain ⟨hp1, hp2⟩ : -9223372036854775808 ≤ p ∧ p ≤ 9223372036854775807 := hp
  have hsz : cx.size = 35 := by rw [hcx]; rfl
  have HM := Lib.hid hM
  have HX := Lib.hid (CcAt.new w cx)
  have HB0 := Lib.hid ((Below.refl w.heap.size w).alloc (Nat.le_refl _) (.cells cx 30))
  have Len0 := Lib.hid (show (Form.nat a).length ≤ 10 from Form.nat_len10 (by omega))
  have Len1 := Lib.hid (show (Form.nat n).length ≤ 10 from Form.nat_len10 (by omega))
  have Len2 := Lib.hid (show (Form.flag b).length = 1 from rfl)
  have Len3 := Lib.hid (show (Form.nat z).length ≤ 10 from Form.nat_len10 (by omega))
  have Len4 := Lib.hid (show (Form.nat (Form.fold p)).length ≤ 10 from Form.nat_len10 (Form.fold_lt hp1 hp2))
  have Len5 := Lib.hid (show (Form.nat (Form.fold q)).length ≤ 10 from Form.nat_len10 (Form.fold_lt hq.1 hq.2))
  have LenK := Lib.hid (show (Form.nat 5).length ≤ 10 from Form.nat_len10 (by decide))
  have X1 := Lib.hid (show cx[1]? = some (.int .u32 (a : Int)) by rw [hcx]; rfl)
  have X2 := Lib.hid (show cx[2]? = some (.int .u32 (n : Int)) by rw [hcx]; rfl)
  have X31 := Lib.hid (show cx[31]? = some (.bool b) by rw [hcx]; rfl)
  have X32 := Lib.hid (show cx[32]? = some (.int .u8 (z : Int)) by rw [hcx]; rfl)
  have X33 := Lib.hid (show cx[33]? = some (.int .i64 p) by rw [hcx]; rfl)
  have X34 := Lib.hid (show cx[34]? = some (.int .i64 q) by rw [hcx]; rfl)
  have X0 := Lib.hid (show cx[0]? = some (.int .u8 (5 : Int)) by rw [hcx]; rfl)
  clear hcx hM
  go_enter Try.func10, Try.ntmps10
  go_upto_region 4 with (first
    | (refine wpList_load_cc rfl (.tmp 1) rfl rfl HX.out hsz ?_)
    | (go_at_call 19; (with_reducible refine (HM.out _).mono ?_); rintro r w2 ⟨rfl, hB⟩; have HX2 := Lib.hid (HX.out.keeps hB.block); have HB2 := Lib.hid (HB0.out.trans (hB.mono HB0.out.size)); have x0 := (HX2.out.at 0).trans X0.out; have hb2 : w.heap.size ≤ w2.heap.size := HB2.out.size; clear hB)
    | (go_at_call 25; (with_reducible refine (nat2_z w.heap.size (.slice none 0 0) [] 5 5 rfl w2 (OB.nil w2 _ _) (by decide) (by decide) hb2).mono ?_); rintro r w3 ⟨p0, k0, c0, rfl, hk0, ho0, hg0, hn0⟩; have HC0 := Lib.hid (CS.made HX2.out HB2.out hg0 (by have h := ho0; rw [List.nil_append] at h; exact h) hn0 HX2.out.lt); rw [List.nil_append] at hk0; have HK := Lib.hid hk0; clear hk0 ho0 hg0 hn0))
  obtain ⟨l0, hl0⟩ : ∃ x, Form.nat 5 = x := ⟨_, rfl⟩
  rw [hl0] at HC0 HK
  have HL0 := Lib.hid hl0
  have HK0 := HK
  clear hl0 HK
  obtain ⟨W0, hW0⟩ : ∃ W0, w3.alloc (.cells #[.slice p0 k0 c0] 39) = W0 := ⟨_, rfl⟩
  rw [hW0] at HC0
  rw [hW0]
  obtain ⟨B, hBe⟩ : ∃ B, w3.heap.size = B := ⟨_, rfl⟩
  rw [hBe] at HC0
  rw [hBe]
  clear hW0 hBe x0 HX2 HB2 hb2 HX HB0
  have LB0 := Lib.hid (show l0.length ≤ 10 from by have h := LenK.out; rw [HL0.out] at h; exact h)
  have y0_0 := (HC0.out.at 0).trans X0.out
  have yv0 := HC0.out.var
  have yf0 := HC0.out.thaw
  have y1_0 := (HC0.out.at 1).trans X1.out
  have y2_0 := (HC0.out.at 2).trans X2.out
  have y31_0 := (HC0.out.at 31).trans X31.out
  have y32_0 := (HC0.out.at 32).trans X32.out
  have y33_0 := (HC0.out.at 33).trans X33.out
  have y34_0 := (HC0.out.at 34).trans X34.out
  go_upto_region 19 with (first
    | (go_at_call 26; (with_reducible refine (acc_w a cx B _ l0 w _ HC0.out X1.out ha (Nat.le_trans LB0.out (by decide))).mono ?_); rintro e W1 ⟨rfl, v1, hC⟩; obtain ⟨l1, hl1⟩ : ∃ x, l0 ++ Form.nat a = x := ⟨_, rfl⟩; rw [hl1] at hC; have HL1 := Lib.hid hl1; have LB1 := Lib.hid (show l1.length ≤ 20 from by (have h1 := LB0.out; have h2 := Len0.out; rw [← hl1, List.length_append]; omega)); obtain ⟨p1, c1, rfl⟩ := hC.ob.form; have HC1 := Lib.hid hC; clear hC hl1; have yv1 := HC1.out.var; have yf1 := HC1.out.thaw; have y1_1 := (HC1.out.at 1).trans X1.out; have y2_1 := (HC1.out.at 2).trans X2.out; have y31_1 := (HC1.out.at 31).trans X31.out; have y32_1 := (HC1.out.at 32).trans X32.out; have y33_1 := (HC1.out.at 33).trans X33.out; have y34_1 := (HC1.out.at 34).trans X34.out)
    | (go_at_call 27; (with_reducible refine (con_w n cx B _ l1 w _ HC1.out X2.out hn (Nat.le_trans LB1.out (by decide))).mono ?_); rintro e W2 ⟨rfl, v2, hC⟩; obtain ⟨l2, hl2⟩ : ∃ x, l1 ++ Form.nat n = x := ⟨_, rfl⟩; rw [hl2] at hC; have HL2 := Lib.hid hl2; have LB2 := Lib.hid (show l2.length ≤ 30 from by (have h1 := LB1.out; have h2 := Len1.out; rw [← hl2, List.length_append]; omega)); obtain ⟨p2, c2, rfl⟩ := hC.ob.form; have HC2 := Lib.hid hC; clear hC hl2; have yv2 := HC2.out.var; have yf2 := HC2.out.thaw; have y1_2 := (HC2.out.at 1).trans X1.out; have y2_2 := (HC2.out.at 2).trans X2.out; have y31_2 := (HC2.out.at 31).trans X31.out; have y32_2 := (HC2.out.at 32).trans X32.out; have y33_2 := (HC2.out.at 33).trans X33.out; have y34_2 := (HC2.out.at 34).trans X34.out))
  have HD := Lib.hid (HC2.out.keep (Below.refl W2.heap.size W2).drew)
  have hwz : IntKind.u64.wrap (z : Int) = (z : Int) := IntWalk.u64_in _ (by omega)
  have Hp := Lib.hid (show Sp.i64 p from ⟨hp1, hp2⟩)
  have Hq := Lib.hid hq
  have HG0 := Lib.hid (World.grownBy.refl (W2).drew (Value.ownBlock (.slice p2 l2.length c2)))
  have HN0 := Lib.hid (Near.refl (W2).drew (.slice p2 l2.length c2))
  have Hc := Lib.hid (fun (W : World) (h : (W2).drew.grownBy W (Value.ownBlock (.slice p2 l2.length c2))) (i : Nat) => (show W.cell? ⟨w.heap.size, i, none⟩ = cx[i]? from (HD.out.cg h).at i))
  have Hsz := Lib.hid (fun (W : World) (h : (W2).drew.grownBy W (Value.ownBlock (.slice p2 l2.length c2))) => Nat.le_trans HD.out.size h.size)
  refine wp_region_held_drew (S := fun w' => w'.cell? ⟨w.heap.size, 31, none⟩ = some (.bool b) ∧ w'.cell? ⟨w.heap.size, 32, none⟩ = some (.int .u8 (z : Int)) ∧ w'.cell? ⟨w.heap.size, 33, none⟩ = some (.int .i64 p) ∧ w'.cell? ⟨w.heap.size, 34, none⟩ = some (.int .i64 q)) (by kernel_rfl) ?_ (fun hHeld => ?_)
  · go_keep
  refine take_lit (i := 1) (v := .pointer (some ⟨w.heap.size, 31, none⟩)) rfl rfl (by kernel_rfl) (by kernel_rfl) (by kernel_rfl) (fun _ _ _ h => h) (Or.inl ⟨by rfl, by (intro W hSw; go_simp)⟩) (by assumption) ?_
  simp only [List.set_cons_zero, List.set_cons_succ]
  refine take_lit (i := 2) (v := .bool b) rfl rfl (by kernel_rfl) (by kernel_rfl) (by kernel_rfl) (fun _ _ _ h => h) (Or.inl ⟨by rfl, by (intro W hSw; go_simp)⟩) (by assumption) ?_
  simp only [List.set_cons_zero, List.set_cons_succ]
  refine take_lit (i := 4) (v := .pointer (some ⟨w.heap.size, 32, none⟩)) rfl rfl (by kernel_rfl) (by kernel_rfl) (by kernel_rfl) (fun _ _ _ h => h) (Or.inl ⟨by rfl, by (intro W hSw; go_simp)⟩) (by assumption) ?_
  simp only [List.set_cons_zero, List.set_cons_succ]
  refine take_lit (i := 5) (v := .int .u8 (z : Int)) rfl rfl (by kernel_rfl) (by kernel_rfl) (by kernel_rfl) (fun _ _ _ h => h) (Or.inl ⟨by rfl, by (intro W hSw; go_simp)⟩) (by assumption) ?_
  simp only [List.set_cons_zero, List.set_cons_succ]
  refine take_lit (i := 6) (v := .int .u64 (z : Int)) rfl rfl (by kernel_rfl) (by kernel_rfl) (by kernel_rfl) (fun _ _ _ h => h) (Or.inl ⟨by rfl, by (intro W hSw; go_simp)⟩) (by assumption) ?_
  simp only [List.set_cons_zero, List.set_cons_succ]
  refine take_lit (i := 8) (v := .pointer (some ⟨w.heap.size, 33, none⟩)) rfl rfl (by kernel_rfl) (by kernel_rfl) (by kernel_rfl) (fun _ _ _ h => h) (Or.inl ⟨by rfl, by (intro W hSw; go_simp)⟩) (by assumption) ?_
  simp only [List.set_cons_zero, List.set_cons_succ]
  refine take_lit (i := 9) (v := .int .i64 p) rfl rfl (by kernel_rfl) (by kernel_rfl) (by kernel_rfl) (fun _ _ _ h => h) (Or.inl ⟨by rfl, by (intro W hSw; go_simp)⟩) (by assumption) ?_
  simp only [List.set_cons_zero, List.set_cons_succ]
  refine take_lit (i := 10) (v := .pointer (some ⟨w.heap.size, 34, none⟩)) rfl rfl (by kernel_rfl) (by kernel_rfl) (by kernel_rfl) (fun _ _ _ h => h) (Or.inl ⟨by rfl, by (intro W hSw; go_simp)⟩) (by assumption) ?_
  simp only [List.set_cons_zero, List.set_cons_succ]
  refine take_lit (i := 11) (v := .int .i64 q) rfl rfl (by kernel_rfl) (by kernel_rfl) (by kernel_rfl) (fun _ _ _ h => h) (Or.inl ⟨by rfl, by (intro W hSw; go_simp)⟩) (by assumption) ?_
  simp only [List.set_cons_zero, List.set_cons_succ]
  refine wpAnyH_ready (rs := [0]) (by kernel_rfl) (by simp) ?_
  refine AllReadyH.cons (o := _) rfl (fun K hK => ?_) AllReadyH.nil
  go_simp
  refine hK.out _ _ ?_ (fun hHeld => ?_)
  · go_keep
  clear hK K
  refine wpAnyH_ready (rs := [3]) (by kernel_rfl) (by simp) ?_
  refine AllReadyH.cons (o := _) rfl (fun K hK => ?_) AllReadyH.nil
  go_simp
  ((with_reducible refine (flag2_w w.heap.size _ l2 b _ HD.out.ob (Nat.le_trans LB2.out (by decide)) HD.out.size).mono ?_); rintro e R1 ⟨r1, k3, s1, rfl, hk, ho, hg, hr⟩; obtain ⟨l3, hl⟩ : ∃ x, l2 ++ Form.flag b = x := ⟨_, rfl⟩; rw [hl] at hk ho; have HL3 := Lib.hid hl; have HK3 := Lib.hid hk; have LB3 := Lib.hid (show l3.length ≤ 40 from by (have h1 := LB2.out; have h2 := Len2.out; rw [← hl, List.length_append]; omega)); have O1 := Lib.hid ho; have G1 := Lib.hid (grown_near HG0.out hg HN0.out); have HG1 := G1; have HN1 := Lib.hid (HN0.out.trans hr HG0.out.size); have Sz1 := Lib.hid (Hsz.out _ G1.out); have e31 := (Hc.out _ G1.out 31).trans X31.out; have e32 := (Hc.out _ G1.out 32).trans X32.out; have e33 := (Hc.out _ G1.out 33).trans X33.out; have e34 := (Hc.out _ G1.out 34).trans X34.out; clear ho hg hr hl hk)
  go_wp2_with fail
  refine hK.out _ _ ?_ (fun hHeld => ?_)
  · go_keep
  clear hK K
  refine wpAnyH_ready (rs := [7]) (by kernel_rfl) (by simp) ?_
  refine AllReadyH.cons (o := _) rfl (fun K hK => ?_) AllReadyH.nil
  go_simp
  ((with_reducible refine (nat2_w w.heap.size _ l3 z _ O1.out (by omega) (Nat.le_trans LB3.out (by decide)) Sz1.out).mono ?_); rintro e R2 ⟨r2, k4, s2, rfl, hk, ho, hg, hr⟩; obtain ⟨l4, hl⟩ : ∃ x, l3 ++ Form.nat z = x := ⟨_, rfl⟩; rw [hl] at hk ho; have HL4 := Lib.hid hl; have HK4 := Lib.hid hk; have LB4 := Lib.hid (show l4.length ≤ 50 from by (have h1 := LB3.out; have h2 := Len3.out; rw [← hl, List.length_append]; omega)); have O2 := Lib.hid ho; have G2 := Lib.hid (grown_near HG1.out hg HN1.out); have HG2 := G2; have HN2 := Lib.hid (HN1.out.trans hr HG1.out.size); have Sz2 := Lib.hid (Hsz.out _ G2.out); have e31 := (Hc.out _ G2.out 31).trans X31.out; have e32 := (Hc.out _ G2.out 32).trans X32.out; have e33 := (Hc.out _ G2.out 33).trans X33.out; have e34 := (Hc.out _ G2.out 34).trans X34.out; clear ho hg hr hl hk)
  go_wp2_with fail
  refine hK.out _ _ ?_ (fun hHeld => ?_)
  · go_keep
  clear hK K
  refine wpAnyH_ready (rs := [12]) (by kernel_rfl) (by simp) ?_
  refine AllReadyH.cons (o := _) rfl (fun K hK => ?_) AllReadyH.nil
  go_simp
  ((with_reducible refine (order_w w.heap.size _ l4 p q _ O2.out Hp.out Hq.out (Nat.le_trans LB4.out (by decide)) Sz2.out).mono ?_); rintro e R3 ⟨r3, k5, s3, rfl, hk, ho, hg, hr⟩; obtain ⟨l5, hl⟩ : ∃ x, l4 ++ (Form.nat (Form.fold p) ++ Form.nat (Form.fold q)) = x := ⟨_, rfl⟩; rw [hl] at hk ho; have HL5 := Lib.hid hl; have HK5 := Lib.hid hk; have O3 := Lib.hid ho; have G3 := Lib.hid (grown_near HG2.out hg HN2.out); have HG3 := G3; have HN3 := Lib.hid (HN2.out.trans hr HG2.out.size); have Sz3 := Lib.hid (Hsz.out _ G3.out); have e31 := (Hc.out _ G3.out 31).trans X31.out; have e32 := (Hc.out _ G3.out 32).trans X32.out; have e33 := (Hc.out _ G3.out 33).trans X33.out; have e34 := (Hc.out _ G3.out 34).trans X34.out; have yb := (show R3.cell? ⟨B, 0, none⟩ = some (.slice p2 l2.length c2) from HD.out.bvar G3.out); have yc := (show R3.frozen? ⟨B, 0, none⟩ = false from HD.out.bthaw G3.out); have HZ := Lib.hid (HD.out.write G3.out HN3.out O3.out); have yz := HZ.out.var; have ez31 := (HZ.out.at 31).trans X31.out; have ez32 := (HZ.out.at 32).trans X32.out; have ez33 := (HZ.out.at 33).trans X33.out; have ez34 := (HZ.out.at 34).trans X34.out; clear ho hg hr hl hk)
  go_wp2_with fail
  refine hK.out _ _ ?_ (fun hHeld => ?_)
  · go_keep
  clear hK K
  refine wpAnyH_ready (rs := [13]) (by kernel_rfl) (by simp) ?_
  refine AllReadyH.cons (o := _) rfl (fun K hK => ?_) AllReadyH.nil
  go_simp
  refine hK.out _ _ ?_ (fun hHeld => ?_)
  · go_keep
  clear hK K
  refine wpAnyH_done (by kernel_rfl) ?_ _
  go_wp2
  have hF : (((((Form.nat 5 ++ Form.nat a) ++ Form.nat n) ++ Form.flag b) ++ Form.nat z) ++ (Form.nat (Form.fold p) ++ Form.nat (Form.fold q))) = l5 := by rw [HL0.out, HL1.out, HL2.out, HL3.out, HL4.out, HL5.out]
  rw [hF]
  go_ret2
  exact ⟨⟨_, _, _, rfl, HK5.out, HZ.out.ob⟩, HZ.out.below⟩
set_option maxRecDepth 100000 in
set_option maxHeartbeats 6400000 in
theorem cmd_6_w (a n u : Nat) (m : Int) (s : Sp) (o b : Bool) (z : Nat) (p q : Int) (w : World) (cx : Array Value) (hcx : cx = cmc 6 a n u m s o b z p q) (ha : a < 2 ^ 32) (hn : n < 2 ^ 32) (hu : u < 2 ^ 64) (hm : Sp.i64 m) (hs : s.ok) (hz : z < 256) (hp : Sp.i64 p) (hq : Sp.i64 q)
    (hM : ∀ W, Calls Try.prog 19 #[.agg cx] W fun e w' => e = .returned (.bool true) ∧ Below W.heap.size W w') :
    Calls Try.prog 10 #[.agg cx] w (CmdY w (((Form.nat 6 ++ Form.nat a) ++ Form.nat u))) := by
  obtain ⟨hm1, hm2⟩ : -9223372036854775808 ≤ m ∧ m ≤ 9223372036854775807 := hm
  obtain ⟨hp1, hp2⟩ : -9223372036854775808 ≤ p ∧ p ≤ 9223372036854775807 := hp
  have hsz : cx.size = 35 := by rw [hcx]; rfl
  have HM := Lib.hid hM
  have HX := Lib.hid (CcAt.new w cx)
  have HB0 := Lib.hid ((Below.refl w.heap.size w).alloc (Nat.le_refl _) (.cells cx 30))
  have Len0 := Lib.hid (show (Form.nat a).length ≤ 10 from Form.nat_len10 (by omega))
  have Len1 := Lib.hid (show (Form.nat u).length ≤ 10 from Form.nat_len10 hu)
  have LenK := Lib.hid (show (Form.nat 6).length ≤ 10 from Form.nat_len10 (by decide))
  have X1 := Lib.hid (show cx[1]? = some (.int .u32 (a : Int)) by rw [hcx]; rfl)
  have X3 := Lib.hid (show cx[3]? = some (.int .u64 (u : Int)) by rw [hcx]; rfl)
  have X0 := Lib.hid (show cx[0]? = some (.int .u8 (6 : Int)) by rw [hcx]; rfl)
  clear hcx hM
  go_enter Try.func10, Try.ntmps10
  go_upto_region 4 with (first
    | (refine wpList_load_cc rfl (.tmp 1) rfl rfl HX.out hsz ?_)
    | (go_at_call 19; (with_reducible refine (HM.out _).mono ?_); rintro r w2 ⟨rfl, hB⟩; have HX2 := Lib.hid (HX.out.keeps hB.block); have HB2 := Lib.hid (HB0.out.trans (hB.mono HB0.out.size)); have x0 := (HX2.out.at 0).trans X0.out; have hb2 : w.heap.size ≤ w2.heap.size := HB2.out.size; clear hB)
    | (go_at_call 25; (with_reducible refine (nat2_z w.heap.size (.slice none 0 0) [] 6 6 rfl w2 (OB.nil w2 _ _) (by decide) (by decide) hb2).mono ?_); rintro r w3 ⟨p0, k0, c0, rfl, hk0, ho0, hg0, hn0⟩; have HC0 := Lib.hid (CS.made HX2.out HB2.out hg0 (by have h := ho0; rw [List.nil_append] at h; exact h) hn0 HX2.out.lt); rw [List.nil_append] at hk0; have HK := Lib.hid hk0; clear hk0 ho0 hg0 hn0))
  obtain ⟨l0, hl0⟩ : ∃ x, Form.nat 6 = x := ⟨_, rfl⟩
  rw [hl0] at HC0 HK
  have HL0 := Lib.hid hl0
  have HK0 := HK
  clear hl0 HK
  obtain ⟨W0, hW0⟩ : ∃ W0, w3.alloc (.cells #[.slice p0 k0 c0] 39) = W0 := ⟨_, rfl⟩
  rw [hW0] at HC0
  rw [hW0]
  obtain ⟨B, hBe⟩ : ∃ B, w3.heap.size = B := ⟨_, rfl⟩
  rw [hBe] at HC0
  rw [hBe]
  clear hW0 hBe x0 HX2 HB2 hb2 HX HB0
  have LB0 := Lib.hid (show l0.length ≤ 10 from by have h := LenK.out; rw [HL0.out] at h; exact h)
  have y0_0 := (HC0.out.at 0).trans X0.out
  have yv0 := HC0.out.var
  have yf0 := HC0.out.thaw
  have y1_0 := (HC0.out.at 1).trans X1.out
  have y3_0 := (HC0.out.at 3).trans X3.out
  go_wp2_with (first
    | (go_at_call 26; (with_reducible refine (acc_w a cx B _ l0 w _ HC0.out X1.out ha (Nat.le_trans LB0.out (by decide))).mono ?_); rintro e W1 ⟨rfl, v1, hC⟩; obtain ⟨l1, hl1⟩ : ∃ x, l0 ++ Form.nat a = x := ⟨_, rfl⟩; rw [hl1] at hC; have HL1 := Lib.hid hl1; have LB1 := Lib.hid (show l1.length ≤ 20 from by (have h1 := LB0.out; have h2 := Len0.out; rw [← hl1, List.length_append]; omega)); obtain ⟨p1, c1, rfl⟩ := hC.ob.form; have HC1 := Lib.hid hC; clear hC hl1; have yv1 := HC1.out.var; have yf1 := HC1.out.thaw; have y1_1 := (HC1.out.at 1).trans X1.out; have y3_1 := (HC1.out.at 3).trans X3.out)
    | (go_at_call 25; (with_reducible refine (nat2_w w.heap.size _ l1 u _ HC1.out.ob hu (Nat.le_trans LB1.out (by decide)) HC1.out.size).mono ?_); rintro e W2 ⟨p2, k2, c2, rfl, hk2, ho, hg, hr⟩; obtain ⟨l2, hl2⟩ : ∃ x, l1 ++ Form.nat u = x := ⟨_, rfl⟩; rw [hl2] at hk2 ho; have HL2 := Lib.hid hl2; have HK2 := Lib.hid hk2; have LB2 := Lib.hid (show l2.length ≤ 30 from by (have h1 := LB1.out; have h2 := Len1.out; rw [← hl2, List.length_append]; omega)); have HC2 := Lib.hid (HC1.out.write hg hr ho); have yb2 : W2.cell? ⟨B, 0, none⟩ = some (.slice p1 l1.length c1) := HC1.out.bvar hg; have yc2 : W2.frozen? ⟨B, 0, none⟩ = false := HC1.out.bthaw hg; clear ho hg hr hk2 hl2; have yv2 := HC2.out.var; have yf2 := HC2.out.thaw; have y1_2 := (HC2.out.at 1).trans X1.out; have y3_2 := (HC2.out.at 3).trans X3.out))
  have hF : ((Form.nat 6 ++ Form.nat a) ++ Form.nat u) = l2 := by rw [HL0.out, HL1.out, HL2.out]
  rw [hF]
  go_ret2
  exact ⟨⟨_, _, _, rfl, HK2.out, HC2.out.ob⟩, HC2.out.below⟩
set_option maxRecDepth 100000 in
set_option maxHeartbeats 6400000 in
theorem cmd_7_w (a n u : Nat) (m : Int) (s : Sp) (o b : Bool) (z : Nat) (p q : Int) (w : World) (cx : Array Value) (hcx : cx = cmc 7 a n u m s o b z p q) (ha : a < 2 ^ 32) (hn : n < 2 ^ 32) (hu : u < 2 ^ 64) (hm : Sp.i64 m) (hs : s.ok) (hz : z < 256) (hp : Sp.i64 p) (hq : Sp.i64 q)
    (hM : ∀ W, Calls Try.prog 19 #[.agg cx] W fun e w' => e = .returned (.bool true) ∧ Below W.heap.size W w') :
    Calls Try.prog 10 #[.agg cx] w (CmdY w ((((Form.nat 7 ++ Form.nat a) ++ Form.nat u) ++ (Form.nat (Form.fold p) ++ Form.nat (Form.fold q))))) := by
  obtain ⟨hm1, hm2⟩ : -9223372036854775808 ≤ m ∧ m ≤ 9223372036854775807 := hm
  obtain ⟨hp1, hp2⟩ : -9223372036854775808 ≤ p ∧ p ≤ 9223372036854775807 := hp
  have hsz : cx.size = 35 := by rw [hcx]; rfl
  have HM := Lib.hid hM
  have HX := Lib.hid (CcAt.new w cx)
  have HB0 := Lib.hid ((Below.refl w.heap.size w).alloc (Nat.le_refl _) (.cells cx 30))
  have Len0 := Lib.hid (show (Form.nat a).length ≤ 10 from Form.nat_len10 (by omega))
  have Len1 := Lib.hid (show (Form.nat u).length ≤ 10 from Form.nat_len10 hu)
  have Len2 := Lib.hid (show (Form.nat (Form.fold p)).length ≤ 10 from Form.nat_len10 (Form.fold_lt hp1 hp2))
  have Len3 := Lib.hid (show (Form.nat (Form.fold q)).length ≤ 10 from Form.nat_len10 (Form.fold_lt hq.1 hq.2))
  have LenK := Lib.hid (show (Form.nat 7).length ≤ 10 from Form.nat_len10 (by decide))
  have X1 := Lib.hid (show cx[1]? = some (.int .u32 (a : Int)) by rw [hcx]; rfl)
  have X3 := Lib.hid (show cx[3]? = some (.int .u64 (u : Int)) by rw [hcx]; rfl)
  have X33 := Lib.hid (show cx[33]? = some (.int .i64 p) by rw [hcx]; rfl)
  have X34 := Lib.hid (show cx[34]? = some (.int .i64 q) by rw [hcx]; rfl)
  have X0 := Lib.hid (show cx[0]? = some (.int .u8 (7 : Int)) by rw [hcx]; rfl)
  clear hcx hM
  go_enter Try.func10, Try.ntmps10
  go_upto_region 4 with (first
    | (refine wpList_load_cc rfl (.tmp 1) rfl rfl HX.out hsz ?_)
    | (go_at_call 19; (with_reducible refine (HM.out _).mono ?_); rintro r w2 ⟨rfl, hB⟩; have HX2 := Lib.hid (HX.out.keeps hB.block); have HB2 := Lib.hid (HB0.out.trans (hB.mono HB0.out.size)); have x0 := (HX2.out.at 0).trans X0.out; have hb2 : w.heap.size ≤ w2.heap.size := HB2.out.size; clear hB)
    | (go_at_call 25; (with_reducible refine (nat2_z w.heap.size (.slice none 0 0) [] 7 7 rfl w2 (OB.nil w2 _ _) (by decide) (by decide) hb2).mono ?_); rintro r w3 ⟨p0, k0, c0, rfl, hk0, ho0, hg0, hn0⟩; have HC0 := Lib.hid (CS.made HX2.out HB2.out hg0 (by have h := ho0; rw [List.nil_append] at h; exact h) hn0 HX2.out.lt); rw [List.nil_append] at hk0; have HK := Lib.hid hk0; clear hk0 ho0 hg0 hn0))
  obtain ⟨l0, hl0⟩ : ∃ x, Form.nat 7 = x := ⟨_, rfl⟩
  rw [hl0] at HC0 HK
  have HL0 := Lib.hid hl0
  have HK0 := HK
  clear hl0 HK
  obtain ⟨W0, hW0⟩ : ∃ W0, w3.alloc (.cells #[.slice p0 k0 c0] 39) = W0 := ⟨_, rfl⟩
  rw [hW0] at HC0
  rw [hW0]
  obtain ⟨B, hBe⟩ : ∃ B, w3.heap.size = B := ⟨_, rfl⟩
  rw [hBe] at HC0
  rw [hBe]
  clear hW0 hBe x0 HX2 HB2 hb2 HX HB0
  have LB0 := Lib.hid (show l0.length ≤ 10 from by have h := LenK.out; rw [HL0.out] at h; exact h)
  have y0_0 := (HC0.out.at 0).trans X0.out
  have yv0 := HC0.out.var
  have yf0 := HC0.out.thaw
  have y1_0 := (HC0.out.at 1).trans X1.out
  have y3_0 := (HC0.out.at 3).trans X3.out
  have y33_0 := (HC0.out.at 33).trans X33.out
  have y34_0 := (HC0.out.at 34).trans X34.out
  go_upto_region 25 with (first
    | (go_at_call 26; (with_reducible refine (acc_w a cx B _ l0 w _ HC0.out X1.out ha (Nat.le_trans LB0.out (by decide))).mono ?_); rintro e W1 ⟨rfl, v1, hC⟩; obtain ⟨l1, hl1⟩ : ∃ x, l0 ++ Form.nat a = x := ⟨_, rfl⟩; rw [hl1] at hC; have HL1 := Lib.hid hl1; have LB1 := Lib.hid (show l1.length ≤ 20 from by (have h1 := LB0.out; have h2 := Len0.out; rw [← hl1, List.length_append]; omega)); obtain ⟨p1, c1, rfl⟩ := hC.ob.form; have HC1 := Lib.hid hC; clear hC hl1; have yv1 := HC1.out.var; have yf1 := HC1.out.thaw; have y1_1 := (HC1.out.at 1).trans X1.out; have y3_1 := (HC1.out.at 3).trans X3.out; have y33_1 := (HC1.out.at 33).trans X33.out; have y34_1 := (HC1.out.at 34).trans X34.out))
  have HD := Lib.hid (HC1.out.keep (Below.refl W1.heap.size W1).drew)
  have Hp := Lib.hid (show Sp.i64 p from ⟨hp1, hp2⟩)
  have Hq := Lib.hid hq
  have HG0 := Lib.hid (World.grownBy.refl (W1).drew (Value.ownBlock (.slice p1 l1.length c1)))
  have HN0 := Lib.hid (Near.refl (W1).drew (.slice p1 l1.length c1))
  have Hc := Lib.hid (fun (W : World) (h : (W1).drew.grownBy W (Value.ownBlock (.slice p1 l1.length c1))) (i : Nat) => (show W.cell? ⟨w.heap.size, i, none⟩ = cx[i]? from (HD.out.cg h).at i))
  have Hsz := Lib.hid (fun (W : World) (h : (W1).drew.grownBy W (Value.ownBlock (.slice p1 l1.length c1))) => Nat.le_trans HD.out.size h.size)
  refine wp_region_held_drew (S := fun w' => w'.cell? ⟨w.heap.size, 3, none⟩ = some (.int .u64 (u : Int)) ∧ w'.cell? ⟨w.heap.size, 33, none⟩ = some (.int .i64 p) ∧ w'.cell? ⟨w.heap.size, 34, none⟩ = some (.int .i64 q)) (by kernel_rfl) ?_ (fun hHeld => ?_)
  · go_keep
  refine take_lit (i := 1) (v := .pointer (some ⟨w.heap.size, 3, none⟩)) rfl rfl (by kernel_rfl) (by kernel_rfl) (by kernel_rfl) (fun _ _ _ h => h) (Or.inl ⟨by rfl, by (intro W hSw; go_simp)⟩) (by assumption) ?_
  simp only [List.set_cons_zero, List.set_cons_succ]
  refine take_lit (i := 2) (v := .int .u64 (u : Int)) rfl rfl (by kernel_rfl) (by kernel_rfl) (by kernel_rfl) (fun _ _ _ h => h) (Or.inl ⟨by rfl, by (intro W hSw; go_simp)⟩) (by assumption) ?_
  simp only [List.set_cons_zero, List.set_cons_succ]
  refine take_lit (i := 4) (v := .pointer (some ⟨w.heap.size, 33, none⟩)) rfl rfl (by kernel_rfl) (by kernel_rfl) (by kernel_rfl) (fun _ _ _ h => h) (Or.inl ⟨by rfl, by (intro W hSw; go_simp)⟩) (by assumption) ?_
  simp only [List.set_cons_zero, List.set_cons_succ]
  refine take_lit (i := 5) (v := .int .i64 p) rfl rfl (by kernel_rfl) (by kernel_rfl) (by kernel_rfl) (fun _ _ _ h => h) (Or.inl ⟨by rfl, by (intro W hSw; go_simp)⟩) (by assumption) ?_
  simp only [List.set_cons_zero, List.set_cons_succ]
  refine take_lit (i := 6) (v := .pointer (some ⟨w.heap.size, 34, none⟩)) rfl rfl (by kernel_rfl) (by kernel_rfl) (by kernel_rfl) (fun _ _ _ h => h) (Or.inl ⟨by rfl, by (intro W hSw; go_simp)⟩) (by assumption) ?_
  simp only [List.set_cons_zero, List.set_cons_succ]
  refine take_lit (i := 7) (v := .int .i64 q) rfl rfl (by kernel_rfl) (by kernel_rfl) (by kernel_rfl) (fun _ _ _ h => h) (Or.inl ⟨by rfl, by (intro W hSw; go_simp)⟩) (by assumption) ?_
  simp only [List.set_cons_zero, List.set_cons_succ]
  refine wpAnyH_ready (rs := [0]) (by kernel_rfl) (by simp) ?_
  refine AllReadyH.cons (o := _) rfl (fun K hK => ?_) AllReadyH.nil
  go_simp
  refine hK.out _ _ ?_ (fun hHeld => ?_)
  · go_keep
  clear hK K
  refine wpAnyH_ready (rs := [3]) (by kernel_rfl) (by simp) ?_
  refine AllReadyH.cons (o := _) rfl (fun K hK => ?_) AllReadyH.nil
  go_simp
  ((with_reducible refine (nat2_w w.heap.size _ l1 u _ HD.out.ob hu (Nat.le_trans LB1.out (by decide)) HD.out.size).mono ?_); rintro e R1 ⟨r1, k2, s1, rfl, hk, ho, hg, hr⟩; obtain ⟨l2, hl⟩ : ∃ x, l1 ++ Form.nat u = x := ⟨_, rfl⟩; rw [hl] at hk ho; have HL2 := Lib.hid hl; have HK2 := Lib.hid hk; have LB2 := Lib.hid (show l2.length ≤ 30 from by (have h1 := LB1.out; have h2 := Len1.out; rw [← hl, List.length_append]; omega)); have O1 := Lib.hid ho; have G1 := Lib.hid (grown_near HG0.out hg HN0.out); have HG1 := G1; have HN1 := Lib.hid (HN0.out.trans hr HG0.out.size); have Sz1 := Lib.hid (Hsz.out _ G1.out); have e3 := (Hc.out _ G1.out 3).trans X3.out; have e33 := (Hc.out _ G1.out 33).trans X33.out; have e34 := (Hc.out _ G1.out 34).trans X34.out; clear ho hg hr hl hk)
  go_wp2_with fail
  refine hK.out _ _ ?_ (fun hHeld => ?_)
  · go_keep
  clear hK K
  refine wpAnyH_ready (rs := [8]) (by kernel_rfl) (by simp) ?_
  refine AllReadyH.cons (o := _) rfl (fun K hK => ?_) AllReadyH.nil
  go_simp
  ((with_reducible refine (order_w w.heap.size _ l2 p q _ O1.out Hp.out Hq.out (Nat.le_trans LB2.out (by decide)) Sz1.out).mono ?_); rintro e R2 ⟨r2, k3, s2, rfl, hk, ho, hg, hr⟩; obtain ⟨l3, hl⟩ : ∃ x, l2 ++ (Form.nat (Form.fold p) ++ Form.nat (Form.fold q)) = x := ⟨_, rfl⟩; rw [hl] at hk ho; have HL3 := Lib.hid hl; have HK3 := Lib.hid hk; have O2 := Lib.hid ho; have G2 := Lib.hid (grown_near HG1.out hg HN1.out); have HG2 := G2; have HN2 := Lib.hid (HN1.out.trans hr HG1.out.size); have Sz2 := Lib.hid (Hsz.out _ G2.out); have e3 := (Hc.out _ G2.out 3).trans X3.out; have e33 := (Hc.out _ G2.out 33).trans X33.out; have e34 := (Hc.out _ G2.out 34).trans X34.out; have yb := (show R2.cell? ⟨B, 0, none⟩ = some (.slice p1 l1.length c1) from HD.out.bvar G2.out); have yc := (show R2.frozen? ⟨B, 0, none⟩ = false from HD.out.bthaw G2.out); have HZ := Lib.hid (HD.out.write G2.out HN2.out O2.out); have yz := HZ.out.var; have ez3 := (HZ.out.at 3).trans X3.out; have ez33 := (HZ.out.at 33).trans X33.out; have ez34 := (HZ.out.at 34).trans X34.out; clear ho hg hr hl hk)
  go_wp2_with fail
  refine hK.out _ _ ?_ (fun hHeld => ?_)
  · go_keep
  clear hK K
  refine wpAnyH_ready (rs := [9]) (by kernel_rfl) (by simp) ?_
  refine AllReadyH.cons (o := _) rfl (fun K hK => ?_) AllReadyH.nil
  go_simp
  refine hK.out _ _ ?_ (fun hHeld => ?_)
  · go_keep
  clear hK K
  refine wpAnyH_done (by kernel_rfl) ?_ _
  go_wp2
  have hF : (((Form.nat 7 ++ Form.nat a) ++ Form.nat u) ++ (Form.nat (Form.fold p) ++ Form.nat (Form.fold q))) = l3 := by rw [HL0.out, HL1.out, HL2.out, HL3.out]
  rw [hF]
  go_ret2
  exact ⟨⟨_, _, _, rfl, HK3.out, HZ.out.ob⟩, HZ.out.below⟩
set_option maxRecDepth 100000 in
set_option maxHeartbeats 6400000 in
theorem cmd_8_w (a n u : Nat) (m : Int) (s : Sp) (o b : Bool) (z : Nat) (p q : Int) (w : World) (cx : Array Value) (hcx : cx = cmc 8 a n u m s o b z p q) (ha : a < 2 ^ 32) (hn : n < 2 ^ 32) (hu : u < 2 ^ 64) (hm : Sp.i64 m) (hs : s.ok) (hz : z < 256) (hp : Sp.i64 p) (hq : Sp.i64 q)
    (hM : ∀ W, Calls Try.prog 19 #[.agg cx] W fun e w' => e = .returned (.bool true) ∧ Below W.heap.size W w') :
    Calls Try.prog 10 #[.agg cx] w (CmdY w (((Form.nat 8 ++ Form.nat a) ++ Form.nat n))) := by
  obtain ⟨hm1, hm2⟩ : -9223372036854775808 ≤ m ∧ m ≤ 9223372036854775807 := hm
  obtain ⟨hp1, hp2⟩ : -9223372036854775808 ≤ p ∧ p ≤ 9223372036854775807 := hp
  have hsz : cx.size = 35 := by rw [hcx]; rfl
  have HM := Lib.hid hM
  have HX := Lib.hid (CcAt.new w cx)
  have HB0 := Lib.hid ((Below.refl w.heap.size w).alloc (Nat.le_refl _) (.cells cx 30))
  have Len0 := Lib.hid (show (Form.nat a).length ≤ 10 from Form.nat_len10 (by omega))
  have Len1 := Lib.hid (show (Form.nat n).length ≤ 10 from Form.nat_len10 (by omega))
  have LenK := Lib.hid (show (Form.nat 8).length ≤ 10 from Form.nat_len10 (by decide))
  have X1 := Lib.hid (show cx[1]? = some (.int .u32 (a : Int)) by rw [hcx]; rfl)
  have X2 := Lib.hid (show cx[2]? = some (.int .u32 (n : Int)) by rw [hcx]; rfl)
  have X0 := Lib.hid (show cx[0]? = some (.int .u8 (8 : Int)) by rw [hcx]; rfl)
  clear hcx hM
  go_enter Try.func10, Try.ntmps10
  go_upto_region 4 with (first
    | (refine wpList_load_cc rfl (.tmp 1) rfl rfl HX.out hsz ?_)
    | (go_at_call 19; (with_reducible refine (HM.out _).mono ?_); rintro r w2 ⟨rfl, hB⟩; have HX2 := Lib.hid (HX.out.keeps hB.block); have HB2 := Lib.hid (HB0.out.trans (hB.mono HB0.out.size)); have x0 := (HX2.out.at 0).trans X0.out; have hb2 : w.heap.size ≤ w2.heap.size := HB2.out.size; clear hB)
    | (go_at_call 25; (with_reducible refine (nat2_z w.heap.size (.slice none 0 0) [] 8 8 rfl w2 (OB.nil w2 _ _) (by decide) (by decide) hb2).mono ?_); rintro r w3 ⟨p0, k0, c0, rfl, hk0, ho0, hg0, hn0⟩; have HC0 := Lib.hid (CS.made HX2.out HB2.out hg0 (by have h := ho0; rw [List.nil_append] at h; exact h) hn0 HX2.out.lt); rw [List.nil_append] at hk0; have HK := Lib.hid hk0; clear hk0 ho0 hg0 hn0))
  obtain ⟨l0, hl0⟩ : ∃ x, Form.nat 8 = x := ⟨_, rfl⟩
  rw [hl0] at HC0 HK
  have HL0 := Lib.hid hl0
  have HK0 := HK
  clear hl0 HK
  obtain ⟨W0, hW0⟩ : ∃ W0, w3.alloc (.cells #[.slice p0 k0 c0] 39) = W0 := ⟨_, rfl⟩
  rw [hW0] at HC0
  rw [hW0]
  obtain ⟨B, hBe⟩ : ∃ B, w3.heap.size = B := ⟨_, rfl⟩
  rw [hBe] at HC0
  rw [hBe]
  clear hW0 hBe x0 HX2 HB2 hb2 HX HB0
  have LB0 := Lib.hid (show l0.length ≤ 10 from by have h := LenK.out; rw [HL0.out] at h; exact h)
  have y0_0 := (HC0.out.at 0).trans X0.out
  have yv0 := HC0.out.var
  have yf0 := HC0.out.thaw
  have y1_0 := (HC0.out.at 1).trans X1.out
  have y2_0 := (HC0.out.at 2).trans X2.out
  go_wp2_with (first
    | (go_at_call 26; (with_reducible refine (acc_w a cx B _ l0 w _ HC0.out X1.out ha (Nat.le_trans LB0.out (by decide))).mono ?_); rintro e W1 ⟨rfl, v1, hC⟩; obtain ⟨l1, hl1⟩ : ∃ x, l0 ++ Form.nat a = x := ⟨_, rfl⟩; rw [hl1] at hC; have HL1 := Lib.hid hl1; have LB1 := Lib.hid (show l1.length ≤ 20 from by (have h1 := LB0.out; have h2 := Len0.out; rw [← hl1, List.length_append]; omega)); obtain ⟨p1, c1, rfl⟩ := hC.ob.form; have HC1 := Lib.hid hC; clear hC hl1; have yv1 := HC1.out.var; have yf1 := HC1.out.thaw; have y1_1 := (HC1.out.at 1).trans X1.out; have y2_1 := (HC1.out.at 2).trans X2.out)
    | (go_at_call 27; (with_reducible refine (con_w n cx B _ l1 w _ HC1.out X2.out hn (Nat.le_trans LB1.out (by decide))).mono ?_); rintro e W2 ⟨rfl, v2, hC⟩; obtain ⟨l2, hl2⟩ : ∃ x, l1 ++ Form.nat n = x := ⟨_, rfl⟩; rw [hl2] at hC; have HL2 := Lib.hid hl2; have LB2 := Lib.hid (show l2.length ≤ 30 from by (have h1 := LB1.out; have h2 := Len1.out; rw [← hl2, List.length_append]; omega)); obtain ⟨p2, c2, rfl⟩ := hC.ob.form; have HC2 := Lib.hid hC; clear hC hl2; have yv2 := HC2.out.var; have yf2 := HC2.out.thaw; have y1_2 := (HC2.out.at 1).trans X1.out; have y2_2 := (HC2.out.at 2).trans X2.out))
  have hF : ((Form.nat 8 ++ Form.nat a) ++ Form.nat n) = l2 := by rw [HL0.out, HL1.out, HL2.out]
  rw [hF]
  go_ret2
  exact ⟨⟨_, _, _, rfl, rfl, HC2.out.ob⟩, HC2.out.below⟩
set_option maxRecDepth 100000 in
set_option maxHeartbeats 6400000 in
theorem cmd_9_w (a n u : Nat) (m : Int) (s : Sp) (o b : Bool) (z : Nat) (p q : Int) (w : World) (cx : Array Value) (hcx : cx = cmc 9 a n u m s o b z p q) (ha : a < 2 ^ 32) (hn : n < 2 ^ 32) (hu : u < 2 ^ 64) (hm : Sp.i64 m) (hs : s.ok) (hz : z < 256) (hp : Sp.i64 p) (hq : Sp.i64 q)
    (hM : ∀ W, Calls Try.prog 19 #[.agg cx] W fun e w' => e = .returned (.bool true) ∧ Below W.heap.size W w') :
    Calls Try.prog 10 #[.agg cx] w (CmdY w (((((Form.nat 9 ++ Form.nat a) ++ Form.nat n) ++ Form.flag b) ++ (Form.nat (Form.fold p) ++ Form.nat (Form.fold q))))) := by
  obtain ⟨hm1, hm2⟩ : -9223372036854775808 ≤ m ∧ m ≤ 9223372036854775807 := hm
  obtain ⟨hp1, hp2⟩ : -9223372036854775808 ≤ p ∧ p ≤ 9223372036854775807 := hp
  have hsz : cx.size = 35 := by rw [hcx]; rfl
  have HM := Lib.hid hM
  have HX := Lib.hid (CcAt.new w cx)
  have HB0 := Lib.hid ((Below.refl w.heap.size w).alloc (Nat.le_refl _) (.cells cx 30))
  have Len0 := Lib.hid (show (Form.nat a).length ≤ 10 from Form.nat_len10 (by omega))
  have Len1 := Lib.hid (show (Form.nat n).length ≤ 10 from Form.nat_len10 (by omega))
  have Len2 := Lib.hid (show (Form.flag b).length = 1 from rfl)
  have Len3 := Lib.hid (show (Form.nat (Form.fold p)).length ≤ 10 from Form.nat_len10 (Form.fold_lt hp1 hp2))
  have Len4 := Lib.hid (show (Form.nat (Form.fold q)).length ≤ 10 from Form.nat_len10 (Form.fold_lt hq.1 hq.2))
  have LenK := Lib.hid (show (Form.nat 9).length ≤ 10 from Form.nat_len10 (by decide))
  have X1 := Lib.hid (show cx[1]? = some (.int .u32 (a : Int)) by rw [hcx]; rfl)
  have X2 := Lib.hid (show cx[2]? = some (.int .u32 (n : Int)) by rw [hcx]; rfl)
  have X31 := Lib.hid (show cx[31]? = some (.bool b) by rw [hcx]; rfl)
  have X33 := Lib.hid (show cx[33]? = some (.int .i64 p) by rw [hcx]; rfl)
  have X34 := Lib.hid (show cx[34]? = some (.int .i64 q) by rw [hcx]; rfl)
  have X0 := Lib.hid (show cx[0]? = some (.int .u8 (9 : Int)) by rw [hcx]; rfl)
  clear hcx hM
  go_enter Try.func10, Try.ntmps10
  go_upto_region 4 with (first
    | (refine wpList_load_cc rfl (.tmp 1) rfl rfl HX.out hsz ?_)
    | (go_at_call 19; (with_reducible refine (HM.out _).mono ?_); rintro r w2 ⟨rfl, hB⟩; have HX2 := Lib.hid (HX.out.keeps hB.block); have HB2 := Lib.hid (HB0.out.trans (hB.mono HB0.out.size)); have x0 := (HX2.out.at 0).trans X0.out; have hb2 : w.heap.size ≤ w2.heap.size := HB2.out.size; clear hB)
    | (go_at_call 25; (with_reducible refine (nat2_z w.heap.size (.slice none 0 0) [] 9 9 rfl w2 (OB.nil w2 _ _) (by decide) (by decide) hb2).mono ?_); rintro r w3 ⟨p0, k0, c0, rfl, hk0, ho0, hg0, hn0⟩; have HC0 := Lib.hid (CS.made HX2.out HB2.out hg0 (by have h := ho0; rw [List.nil_append] at h; exact h) hn0 HX2.out.lt); rw [List.nil_append] at hk0; have HK := Lib.hid hk0; clear hk0 ho0 hg0 hn0))
  obtain ⟨l0, hl0⟩ : ∃ x, Form.nat 9 = x := ⟨_, rfl⟩
  rw [hl0] at HC0 HK
  have HL0 := Lib.hid hl0
  have HK0 := HK
  clear hl0 HK
  obtain ⟨W0, hW0⟩ : ∃ W0, w3.alloc (.cells #[.slice p0 k0 c0] 39) = W0 := ⟨_, rfl⟩
  rw [hW0] at HC0
  rw [hW0]
  obtain ⟨B, hBe⟩ : ∃ B, w3.heap.size = B := ⟨_, rfl⟩
  rw [hBe] at HC0
  rw [hBe]
  clear hW0 hBe x0 HX2 HB2 hb2 HX HB0
  have LB0 := Lib.hid (show l0.length ≤ 10 from by have h := LenK.out; rw [HL0.out] at h; exact h)
  have y0_0 := (HC0.out.at 0).trans X0.out
  have yv0 := HC0.out.var
  have yf0 := HC0.out.thaw
  have y1_0 := (HC0.out.at 1).trans X1.out
  have y2_0 := (HC0.out.at 2).trans X2.out
  have y31_0 := (HC0.out.at 31).trans X31.out
  have y33_0 := (HC0.out.at 33).trans X33.out
  have y34_0 := (HC0.out.at 34).trans X34.out
  go_upto_region 32 with (first
    | (go_at_call 26; (with_reducible refine (acc_w a cx B _ l0 w _ HC0.out X1.out ha (Nat.le_trans LB0.out (by decide))).mono ?_); rintro e W1 ⟨rfl, v1, hC⟩; obtain ⟨l1, hl1⟩ : ∃ x, l0 ++ Form.nat a = x := ⟨_, rfl⟩; rw [hl1] at hC; have HL1 := Lib.hid hl1; have LB1 := Lib.hid (show l1.length ≤ 20 from by (have h1 := LB0.out; have h2 := Len0.out; rw [← hl1, List.length_append]; omega)); obtain ⟨p1, c1, rfl⟩ := hC.ob.form; have HC1 := Lib.hid hC; clear hC hl1; have yv1 := HC1.out.var; have yf1 := HC1.out.thaw; have y1_1 := (HC1.out.at 1).trans X1.out; have y2_1 := (HC1.out.at 2).trans X2.out; have y31_1 := (HC1.out.at 31).trans X31.out; have y33_1 := (HC1.out.at 33).trans X33.out; have y34_1 := (HC1.out.at 34).trans X34.out)
    | (go_at_call 27; (with_reducible refine (con_w n cx B _ l1 w _ HC1.out X2.out hn (Nat.le_trans LB1.out (by decide))).mono ?_); rintro e W2 ⟨rfl, v2, hC⟩; obtain ⟨l2, hl2⟩ : ∃ x, l1 ++ Form.nat n = x := ⟨_, rfl⟩; rw [hl2] at hC; have HL2 := Lib.hid hl2; have LB2 := Lib.hid (show l2.length ≤ 30 from by (have h1 := LB1.out; have h2 := Len1.out; rw [← hl2, List.length_append]; omega)); obtain ⟨p2, c2, rfl⟩ := hC.ob.form; have HC2 := Lib.hid hC; clear hC hl2; have yv2 := HC2.out.var; have yf2 := HC2.out.thaw; have y1_2 := (HC2.out.at 1).trans X1.out; have y2_2 := (HC2.out.at 2).trans X2.out; have y31_2 := (HC2.out.at 31).trans X31.out; have y33_2 := (HC2.out.at 33).trans X33.out; have y34_2 := (HC2.out.at 34).trans X34.out))
  have HD := Lib.hid (HC2.out.keep (Below.refl W2.heap.size W2).drew)
  have Hp := Lib.hid (show Sp.i64 p from ⟨hp1, hp2⟩)
  have Hq := Lib.hid hq
  have HG0 := Lib.hid (World.grownBy.refl (W2).drew (Value.ownBlock (.slice p2 l2.length c2)))
  have HN0 := Lib.hid (Near.refl (W2).drew (.slice p2 l2.length c2))
  have Hc := Lib.hid (fun (W : World) (h : (W2).drew.grownBy W (Value.ownBlock (.slice p2 l2.length c2))) (i : Nat) => (show W.cell? ⟨w.heap.size, i, none⟩ = cx[i]? from (HD.out.cg h).at i))
  have Hsz := Lib.hid (fun (W : World) (h : (W2).drew.grownBy W (Value.ownBlock (.slice p2 l2.length c2))) => Nat.le_trans HD.out.size h.size)
  refine wp_region_held_drew (S := fun w' => w'.cell? ⟨w.heap.size, 31, none⟩ = some (.bool b) ∧ w'.cell? ⟨w.heap.size, 33, none⟩ = some (.int .i64 p) ∧ w'.cell? ⟨w.heap.size, 34, none⟩ = some (.int .i64 q)) (by kernel_rfl) ?_ (fun hHeld => ?_)
  · go_keep
  refine take_lit (i := 1) (v := .pointer (some ⟨w.heap.size, 31, none⟩)) rfl rfl (by kernel_rfl) (by kernel_rfl) (by kernel_rfl) (fun _ _ _ h => h) (Or.inl ⟨by rfl, by (intro W hSw; go_simp)⟩) (by assumption) ?_
  simp only [List.set_cons_zero, List.set_cons_succ]
  refine take_lit (i := 2) (v := .bool b) rfl rfl (by kernel_rfl) (by kernel_rfl) (by kernel_rfl) (fun _ _ _ h => h) (Or.inl ⟨by rfl, by (intro W hSw; go_simp)⟩) (by assumption) ?_
  simp only [List.set_cons_zero, List.set_cons_succ]
  refine take_lit (i := 4) (v := .pointer (some ⟨w.heap.size, 33, none⟩)) rfl rfl (by kernel_rfl) (by kernel_rfl) (by kernel_rfl) (fun _ _ _ h => h) (Or.inl ⟨by rfl, by (intro W hSw; go_simp)⟩) (by assumption) ?_
  simp only [List.set_cons_zero, List.set_cons_succ]
  refine take_lit (i := 5) (v := .int .i64 p) rfl rfl (by kernel_rfl) (by kernel_rfl) (by kernel_rfl) (fun _ _ _ h => h) (Or.inl ⟨by rfl, by (intro W hSw; go_simp)⟩) (by assumption) ?_
  simp only [List.set_cons_zero, List.set_cons_succ]
  refine take_lit (i := 6) (v := .pointer (some ⟨w.heap.size, 34, none⟩)) rfl rfl (by kernel_rfl) (by kernel_rfl) (by kernel_rfl) (fun _ _ _ h => h) (Or.inl ⟨by rfl, by (intro W hSw; go_simp)⟩) (by assumption) ?_
  simp only [List.set_cons_zero, List.set_cons_succ]
  refine take_lit (i := 7) (v := .int .i64 q) rfl rfl (by kernel_rfl) (by kernel_rfl) (by kernel_rfl) (fun _ _ _ h => h) (Or.inl ⟨by rfl, by (intro W hSw; go_simp)⟩) (by assumption) ?_
  simp only [List.set_cons_zero, List.set_cons_succ]
  refine wpAnyH_ready (rs := [0]) (by kernel_rfl) (by simp) ?_
  refine AllReadyH.cons (o := _) rfl (fun K hK => ?_) AllReadyH.nil
  go_simp
  refine hK.out _ _ ?_ (fun hHeld => ?_)
  · go_keep
  clear hK K
  refine wpAnyH_ready (rs := [3]) (by kernel_rfl) (by simp) ?_
  refine AllReadyH.cons (o := _) rfl (fun K hK => ?_) AllReadyH.nil
  go_simp
  ((with_reducible refine (flag2_w w.heap.size _ l2 b _ HD.out.ob (Nat.le_trans LB2.out (by decide)) HD.out.size).mono ?_); rintro e R1 ⟨r1, k3, s1, rfl, hk, ho, hg, hr⟩; obtain ⟨l3, hl⟩ : ∃ x, l2 ++ Form.flag b = x := ⟨_, rfl⟩; rw [hl] at hk ho; have HL3 := Lib.hid hl; have HK3 := Lib.hid hk; have LB3 := Lib.hid (show l3.length ≤ 40 from by (have h1 := LB2.out; have h2 := Len2.out; rw [← hl, List.length_append]; omega)); have O1 := Lib.hid ho; have G1 := Lib.hid (grown_near HG0.out hg HN0.out); have HG1 := G1; have HN1 := Lib.hid (HN0.out.trans hr HG0.out.size); have Sz1 := Lib.hid (Hsz.out _ G1.out); have e31 := (Hc.out _ G1.out 31).trans X31.out; have e33 := (Hc.out _ G1.out 33).trans X33.out; have e34 := (Hc.out _ G1.out 34).trans X34.out; clear ho hg hr hl hk)
  go_wp2_with fail
  refine hK.out _ _ ?_ (fun hHeld => ?_)
  · go_keep
  clear hK K
  refine wpAnyH_ready (rs := [8]) (by kernel_rfl) (by simp) ?_
  refine AllReadyH.cons (o := _) rfl (fun K hK => ?_) AllReadyH.nil
  go_simp
  ((with_reducible refine (order_w w.heap.size _ l3 p q _ O1.out Hp.out Hq.out (Nat.le_trans LB3.out (by decide)) Sz1.out).mono ?_); rintro e R2 ⟨r2, k4, s2, rfl, hk, ho, hg, hr⟩; obtain ⟨l4, hl⟩ : ∃ x, l3 ++ (Form.nat (Form.fold p) ++ Form.nat (Form.fold q)) = x := ⟨_, rfl⟩; rw [hl] at hk ho; have HL4 := Lib.hid hl; have HK4 := Lib.hid hk; have O2 := Lib.hid ho; have G2 := Lib.hid (grown_near HG1.out hg HN1.out); have HG2 := G2; have HN2 := Lib.hid (HN1.out.trans hr HG1.out.size); have Sz2 := Lib.hid (Hsz.out _ G2.out); have e31 := (Hc.out _ G2.out 31).trans X31.out; have e33 := (Hc.out _ G2.out 33).trans X33.out; have e34 := (Hc.out _ G2.out 34).trans X34.out; have yb := (show R2.cell? ⟨B, 0, none⟩ = some (.slice p2 l2.length c2) from HD.out.bvar G2.out); have yc := (show R2.frozen? ⟨B, 0, none⟩ = false from HD.out.bthaw G2.out); have HZ := Lib.hid (HD.out.write G2.out HN2.out O2.out); have yz := HZ.out.var; have ez31 := (HZ.out.at 31).trans X31.out; have ez33 := (HZ.out.at 33).trans X33.out; have ez34 := (HZ.out.at 34).trans X34.out; clear ho hg hr hl hk)
  go_wp2_with fail
  refine hK.out _ _ ?_ (fun hHeld => ?_)
  · go_keep
  clear hK K
  refine wpAnyH_ready (rs := [9]) (by kernel_rfl) (by simp) ?_
  refine AllReadyH.cons (o := _) rfl (fun K hK => ?_) AllReadyH.nil
  go_simp
  refine hK.out _ _ ?_ (fun hHeld => ?_)
  · go_keep
  clear hK K
  refine wpAnyH_done (by kernel_rfl) ?_ _
  go_wp2
  have hF : ((((Form.nat 9 ++ Form.nat a) ++ Form.nat n) ++ Form.flag b) ++ (Form.nat (Form.fold p) ++ Form.nat (Form.fold q))) = l4 := by rw [HL0.out, HL1.out, HL2.out, HL3.out, HL4.out]
  rw [hF]
  go_ret2
  exact ⟨⟨_, _, _, rfl, HK4.out, HZ.out.ob⟩, HZ.out.below⟩
set_option maxRecDepth 100000 in
set_option maxHeartbeats 6400000 in
theorem cmd_10_w (a n u : Nat) (m : Int) (s : Sp) (o b : Bool) (z : Nat) (p q : Int) (w : World) (cx : Array Value) (hcx : cx = cmc 10 a n u m s o b z p q) (ha : a < 2 ^ 32) (hn : n < 2 ^ 32) (hu : u < 2 ^ 64) (hm : Sp.i64 m) (hs : s.ok) (hz : z < 256) (hp : Sp.i64 p) (hq : Sp.i64 q)
    (hM : ∀ W, Calls Try.prog 19 #[.agg cx] W fun e w' => e = .returned (.bool true) ∧ Below W.heap.size W w') :
    Calls Try.prog 10 #[.agg cx] w (CmdY w (((Form.nat 10 ++ Form.nat a) ++ Form.flag o))) := by
  obtain ⟨hm1, hm2⟩ : -9223372036854775808 ≤ m ∧ m ≤ 9223372036854775807 := hm
  obtain ⟨hp1, hp2⟩ : -9223372036854775808 ≤ p ∧ p ≤ 9223372036854775807 := hp
  have hsz : cx.size = 35 := by rw [hcx]; rfl
  have HM := Lib.hid hM
  have HX := Lib.hid (CcAt.new w cx)
  have HB0 := Lib.hid ((Below.refl w.heap.size w).alloc (Nat.le_refl _) (.cells cx 30))
  have Len0 := Lib.hid (show (Form.nat a).length ≤ 10 from Form.nat_len10 (by omega))
  have Len1 := Lib.hid (show (Form.flag o).length = 1 from rfl)
  have LenK := Lib.hid (show (Form.nat 10).length ≤ 10 from Form.nat_len10 (by decide))
  have X1 := Lib.hid (show cx[1]? = some (.int .u32 (a : Int)) by rw [hcx]; rfl)
  have X30 := Lib.hid (show cx[30]? = some (.bool o) by rw [hcx]; rfl)
  have X0 := Lib.hid (show cx[0]? = some (.int .u8 (10 : Int)) by rw [hcx]; rfl)
  clear hcx hM
  go_enter Try.func10, Try.ntmps10
  go_upto_region 4 with (first
    | (refine wpList_load_cc rfl (.tmp 1) rfl rfl HX.out hsz ?_)
    | (go_at_call 19; (with_reducible refine (HM.out _).mono ?_); rintro r w2 ⟨rfl, hB⟩; have HX2 := Lib.hid (HX.out.keeps hB.block); have HB2 := Lib.hid (HB0.out.trans (hB.mono HB0.out.size)); have x0 := (HX2.out.at 0).trans X0.out; have hb2 : w.heap.size ≤ w2.heap.size := HB2.out.size; clear hB)
    | (go_at_call 25; (with_reducible refine (nat2_z w.heap.size (.slice none 0 0) [] 10 10 rfl w2 (OB.nil w2 _ _) (by decide) (by decide) hb2).mono ?_); rintro r w3 ⟨p0, k0, c0, rfl, hk0, ho0, hg0, hn0⟩; have HC0 := Lib.hid (CS.made HX2.out HB2.out hg0 (by have h := ho0; rw [List.nil_append] at h; exact h) hn0 HX2.out.lt); rw [List.nil_append] at hk0; have HK := Lib.hid hk0; clear hk0 ho0 hg0 hn0))
  obtain ⟨l0, hl0⟩ : ∃ x, Form.nat 10 = x := ⟨_, rfl⟩
  rw [hl0] at HC0 HK
  have HL0 := Lib.hid hl0
  have HK0 := HK
  clear hl0 HK
  obtain ⟨W0, hW0⟩ : ∃ W0, w3.alloc (.cells #[.slice p0 k0 c0] 39) = W0 := ⟨_, rfl⟩
  rw [hW0] at HC0
  rw [hW0]
  obtain ⟨B, hBe⟩ : ∃ B, w3.heap.size = B := ⟨_, rfl⟩
  rw [hBe] at HC0
  rw [hBe]
  clear hW0 hBe x0 HX2 HB2 hb2 HX HB0
  have LB0 := Lib.hid (show l0.length ≤ 10 from by have h := LenK.out; rw [HL0.out] at h; exact h)
  have y0_0 := (HC0.out.at 0).trans X0.out
  have yv0 := HC0.out.var
  have yf0 := HC0.out.thaw
  have y1_0 := (HC0.out.at 1).trans X1.out
  have y30_0 := (HC0.out.at 30).trans X30.out
  go_wp2_with (first
    | (go_at_call 26; (with_reducible refine (acc_w a cx B _ l0 w _ HC0.out X1.out ha (Nat.le_trans LB0.out (by decide))).mono ?_); rintro e W1 ⟨rfl, v1, hC⟩; obtain ⟨l1, hl1⟩ : ∃ x, l0 ++ Form.nat a = x := ⟨_, rfl⟩; rw [hl1] at hC; have HL1 := Lib.hid hl1; have LB1 := Lib.hid (show l1.length ≤ 20 from by (have h1 := LB0.out; have h2 := Len0.out; rw [← hl1, List.length_append]; omega)); obtain ⟨p1, c1, rfl⟩ := hC.ob.form; have HC1 := Lib.hid hC; clear hC hl1; have yv1 := HC1.out.var; have yf1 := HC1.out.thaw; have y1_1 := (HC1.out.at 1).trans X1.out; have y30_1 := (HC1.out.at 30).trans X30.out)
    | (go_at_call 30; (with_reducible refine (flag2_w w.heap.size _ l1 o _ HC1.out.ob (Nat.le_trans LB1.out (by decide)) HC1.out.size).mono ?_); rintro e W2 ⟨p2, k2, c2, rfl, hk2, ho, hg, hr⟩; obtain ⟨l2, hl2⟩ : ∃ x, l1 ++ Form.flag o = x := ⟨_, rfl⟩; rw [hl2] at hk2 ho; have HL2 := Lib.hid hl2; have HK2 := Lib.hid hk2; have LB2 := Lib.hid (show l2.length ≤ 30 from by (have h1 := LB1.out; have h2 := Len1.out; rw [← hl2, List.length_append]; omega)); have HC2 := Lib.hid (HC1.out.write hg hr ho); have yb2 : W2.cell? ⟨B, 0, none⟩ = some (.slice p1 l1.length c1) := HC1.out.bvar hg; have yc2 : W2.frozen? ⟨B, 0, none⟩ = false := HC1.out.bthaw hg; clear ho hg hr hk2 hl2; have yv2 := HC2.out.var; have yf2 := HC2.out.thaw; have y1_2 := (HC2.out.at 1).trans X1.out; have y30_2 := (HC2.out.at 30).trans X30.out))
  have hF : ((Form.nat 10 ++ Form.nat a) ++ Form.flag o) = l2 := by rw [HL0.out, HL1.out, HL2.out]
  rw [hF]
  go_ret2
  exact ⟨⟨_, _, _, rfl, HK2.out, HC2.out.ob⟩, HC2.out.below⟩
set_option maxRecDepth 100000 in
set_option maxHeartbeats 6400000 in
theorem cmd_11_w (a n u : Nat) (m : Int) (s : Sp) (o b : Bool) (z : Nat) (p q : Int) (w : World) (cx : Array Value) (hcx : cx = cmc 11 a n u m s o b z p q) (ha : a < 2 ^ 32) (hn : n < 2 ^ 32) (hu : u < 2 ^ 64) (hm : Sp.i64 m) (hs : s.ok) (hz : z < 256) (hp : Sp.i64 p) (hq : Sp.i64 q)
    (hM : ∀ W, Calls Try.prog 19 #[.agg cx] W fun e w' => e = .returned (.bool true) ∧ Below W.heap.size W w') :
    Calls Try.prog 10 #[.agg cx] w (CmdY w (((Form.nat 11 ++ Form.nat n) ++ Form.nat (Form.fold p)))) := by
  obtain ⟨hm1, hm2⟩ : -9223372036854775808 ≤ m ∧ m ≤ 9223372036854775807 := hm
  obtain ⟨hp1, hp2⟩ : -9223372036854775808 ≤ p ∧ p ≤ 9223372036854775807 := hp
  have hsz : cx.size = 35 := by rw [hcx]; rfl
  have HM := Lib.hid hM
  have HX := Lib.hid (CcAt.new w cx)
  have HB0 := Lib.hid ((Below.refl w.heap.size w).alloc (Nat.le_refl _) (.cells cx 30))
  have Len0 := Lib.hid (show (Form.nat n).length ≤ 10 from Form.nat_len10 (by omega))
  have Len1 := Lib.hid (show (Form.nat (Form.fold p)).length ≤ 10 from Form.nat_len10 (Form.fold_lt hp1 hp2))
  have LenK := Lib.hid (show (Form.nat 11).length ≤ 10 from Form.nat_len10 (by decide))
  have X2 := Lib.hid (show cx[2]? = some (.int .u32 (n : Int)) by rw [hcx]; rfl)
  have X33 := Lib.hid (show cx[33]? = some (.int .i64 p) by rw [hcx]; rfl)
  have X0 := Lib.hid (show cx[0]? = some (.int .u8 (11 : Int)) by rw [hcx]; rfl)
  clear hcx hM
  go_enter Try.func10, Try.ntmps10
  go_upto_region 4 with (first
    | (refine wpList_load_cc rfl (.tmp 1) rfl rfl HX.out hsz ?_)
    | (go_at_call 19; (with_reducible refine (HM.out _).mono ?_); rintro r w2 ⟨rfl, hB⟩; have HX2 := Lib.hid (HX.out.keeps hB.block); have HB2 := Lib.hid (HB0.out.trans (hB.mono HB0.out.size)); have x0 := (HX2.out.at 0).trans X0.out; have hb2 : w.heap.size ≤ w2.heap.size := HB2.out.size; clear hB)
    | (go_at_call 25; (with_reducible refine (nat2_z w.heap.size (.slice none 0 0) [] 11 11 rfl w2 (OB.nil w2 _ _) (by decide) (by decide) hb2).mono ?_); rintro r w3 ⟨p0, k0, c0, rfl, hk0, ho0, hg0, hn0⟩; have HC0 := Lib.hid (CS.made HX2.out HB2.out hg0 (by have h := ho0; rw [List.nil_append] at h; exact h) hn0 HX2.out.lt); rw [List.nil_append] at hk0; have HK := Lib.hid hk0; clear hk0 ho0 hg0 hn0))
  obtain ⟨l0, hl0⟩ : ∃ x, Form.nat 11 = x := ⟨_, rfl⟩
  rw [hl0] at HC0 HK
  have HL0 := Lib.hid hl0
  have HK0 := HK
  clear hl0 HK
  obtain ⟨W0, hW0⟩ : ∃ W0, w3.alloc (.cells #[.slice p0 k0 c0] 39) = W0 := ⟨_, rfl⟩
  rw [hW0] at HC0
  rw [hW0]
  obtain ⟨B, hBe⟩ : ∃ B, w3.heap.size = B := ⟨_, rfl⟩
  rw [hBe] at HC0
  rw [hBe]
  clear hW0 hBe x0 HX2 HB2 hb2 HX HB0
  have LB0 := Lib.hid (show l0.length ≤ 10 from by have h := LenK.out; rw [HL0.out] at h; exact h)
  have y0_0 := (HC0.out.at 0).trans X0.out
  have yv0 := HC0.out.var
  have yf0 := HC0.out.thaw
  have y2_0 := (HC0.out.at 2).trans X2.out
  have y33_0 := (HC0.out.at 33).trans X33.out
  go_wp2_with (first
    | (go_at_call 27; (with_reducible refine (con_w n cx B _ l0 w _ HC0.out X2.out hn (Nat.le_trans LB0.out (by decide))).mono ?_); rintro e W1 ⟨rfl, v1, hC⟩; obtain ⟨l1, hl1⟩ : ∃ x, l0 ++ Form.nat n = x := ⟨_, rfl⟩; rw [hl1] at hC; have HL1 := Lib.hid hl1; have LB1 := Lib.hid (show l1.length ≤ 20 from by (have h1 := LB0.out; have h2 := Len0.out; rw [← hl1, List.length_append]; omega)); obtain ⟨p1, c1, rfl⟩ := hC.ob.form; have HC1 := Lib.hid hC; clear hC hl1; have yv1 := HC1.out.var; have yf1 := HC1.out.thaw; have y2_1 := (HC1.out.at 2).trans X2.out; have y33_1 := (HC1.out.at 33).trans X33.out)
    | (go_at_call 28; (with_reducible refine (int2_w w.heap.size _ l1 p _ HC1.out.ob hp1 hp2 (Nat.le_trans LB1.out (by decide)) HC1.out.size).mono ?_); rintro e W2 ⟨p2, k2, c2, rfl, hk2, ho, hg, hr⟩; obtain ⟨l2, hl2⟩ : ∃ x, l1 ++ Form.nat (Form.fold p) = x := ⟨_, rfl⟩; rw [hl2] at hk2 ho; have HL2 := Lib.hid hl2; have HK2 := Lib.hid hk2; have LB2 := Lib.hid (show l2.length ≤ 30 from by (have h1 := LB1.out; have h2 := Len1.out; rw [← hl2, List.length_append]; omega)); have HC2 := Lib.hid (HC1.out.write hg hr ho); have yb2 : W2.cell? ⟨B, 0, none⟩ = some (.slice p1 l1.length c1) := HC1.out.bvar hg; have yc2 : W2.frozen? ⟨B, 0, none⟩ = false := HC1.out.bthaw hg; clear ho hg hr hk2 hl2; have yv2 := HC2.out.var; have yf2 := HC2.out.thaw; have y2_2 := (HC2.out.at 2).trans X2.out; have y33_2 := (HC2.out.at 33).trans X33.out))
  have hF : ((Form.nat 11 ++ Form.nat n) ++ Form.nat (Form.fold p)) = l2 := by rw [HL0.out, HL1.out, HL2.out]
  rw [hF]
  go_ret2
  exact ⟨⟨_, _, _, rfl, HK2.out, HC2.out.ob⟩, HC2.out.below⟩
set_option maxRecDepth 100000 in
set_option maxHeartbeats 6400000 in
theorem cmd_12_w (a n u : Nat) (m : Int) (s : Sp) (o b : Bool) (z : Nat) (p q : Int) (w : World) (cx : Array Value) (hcx : cx = cmc 12 a n u m s o b z p q) (ha : a < 2 ^ 32) (hn : n < 2 ^ 32) (hu : u < 2 ^ 64) (hm : Sp.i64 m) (hs : s.ok) (hz : z < 256) (hp : Sp.i64 p) (hq : Sp.i64 q)
    (hM : ∀ W, Calls Try.prog 19 #[.agg cx] W fun e w' => e = .returned (.bool true) ∧ Below W.heap.size W w') :
    Calls Try.prog 10 #[.agg cx] w (CmdY w (Form.nat 12)) := by
  obtain ⟨hm1, hm2⟩ : -9223372036854775808 ≤ m ∧ m ≤ 9223372036854775807 := hm
  obtain ⟨hp1, hp2⟩ : -9223372036854775808 ≤ p ∧ p ≤ 9223372036854775807 := hp
  have hsz : cx.size = 35 := by rw [hcx]; rfl
  have HM := Lib.hid hM
  have HX := Lib.hid (CcAt.new w cx)
  have HB0 := Lib.hid ((Below.refl w.heap.size w).alloc (Nat.le_refl _) (.cells cx 30))
  have LenK := Lib.hid (show (Form.nat 12).length ≤ 10 from Form.nat_len10 (by decide))
  have X0 := Lib.hid (show cx[0]? = some (.int .u8 (12 : Int)) by rw [hcx]; rfl)
  clear hcx hM
  go_enter Try.func10, Try.ntmps10
  go_upto_region 4 with (first
    | (refine wpList_load_cc rfl (.tmp 1) rfl rfl HX.out hsz ?_)
    | (go_at_call 19; (with_reducible refine (HM.out _).mono ?_); rintro r w2 ⟨rfl, hB⟩; have HX2 := Lib.hid (HX.out.keeps hB.block); have HB2 := Lib.hid (HB0.out.trans (hB.mono HB0.out.size)); have x0 := (HX2.out.at 0).trans X0.out; have hb2 : w.heap.size ≤ w2.heap.size := HB2.out.size; clear hB)
    | (go_at_call 25; (with_reducible refine (nat2_z w.heap.size (.slice none 0 0) [] 12 12 rfl w2 (OB.nil w2 _ _) (by decide) (by decide) hb2).mono ?_); rintro r w3 ⟨p0, k0, c0, rfl, hk0, ho0, hg0, hn0⟩; have HC0 := Lib.hid (CS.made HX2.out HB2.out hg0 (by have h := ho0; rw [List.nil_append] at h; exact h) hn0 HX2.out.lt); rw [List.nil_append] at hk0; have HK := Lib.hid hk0; clear hk0 ho0 hg0 hn0))
  obtain ⟨l0, hl0⟩ : ∃ x, Form.nat 12 = x := ⟨_, rfl⟩
  rw [hl0] at HC0 HK
  have HL0 := Lib.hid hl0
  have HK0 := HK
  clear hl0 HK
  obtain ⟨W0, hW0⟩ : ∃ W0, w3.alloc (.cells #[.slice p0 k0 c0] 39) = W0 := ⟨_, rfl⟩
  rw [hW0] at HC0
  rw [hW0]
  obtain ⟨B, hBe⟩ : ∃ B, w3.heap.size = B := ⟨_, rfl⟩
  rw [hBe] at HC0
  rw [hBe]
  clear hW0 hBe x0 HX2 HB2 hb2 HX HB0
  have LB0 := Lib.hid (show l0.length ≤ 10 from by have h := LenK.out; rw [HL0.out] at h; exact h)
  have y0_0 := (HC0.out.at 0).trans X0.out
  have yv0 := HC0.out.var
  have yf0 := HC0.out.thaw
  go_wp2
  have hF : Form.nat 12 = l0 := by rw [HL0.out]
  rw [hF]
  go_ret2
  exact ⟨⟨_, _, _, rfl, HK0.out, HC0.out.ob⟩, HC0.out.below⟩
set_option maxRecDepth 100000 in
set_option maxHeartbeats 6400000 in
theorem cmd_13_w (a n u : Nat) (m : Int) (s : Sp) (o b : Bool) (z : Nat) (p q : Int) (w : World) (cx : Array Value) (hcx : cx = cmc 13 a n u m s o b z p q) (ha : a < 2 ^ 32) (hn : n < 2 ^ 32) (hu : u < 2 ^ 64) (hm : Sp.i64 m) (hs : s.ok) (hz : z < 256) (hp : Sp.i64 p) (hq : Sp.i64 q)
    (hM : ∀ W, Calls Try.prog 19 #[.agg cx] W fun e w' => e = .returned (.bool true) ∧ Below W.heap.size W w') :
    Calls Try.prog 10 #[.agg cx] w (CmdY w ((Form.nat 13 ++ Form.nat a))) := by
  obtain ⟨hm1, hm2⟩ : -9223372036854775808 ≤ m ∧ m ≤ 9223372036854775807 := hm
  obtain ⟨hp1, hp2⟩ : -9223372036854775808 ≤ p ∧ p ≤ 9223372036854775807 := hp
  have hsz : cx.size = 35 := by rw [hcx]; rfl
  have HM := Lib.hid hM
  have HX := Lib.hid (CcAt.new w cx)
  have HB0 := Lib.hid ((Below.refl w.heap.size w).alloc (Nat.le_refl _) (.cells cx 30))
  have Len0 := Lib.hid (show (Form.nat a).length ≤ 10 from Form.nat_len10 (by omega))
  have LenK := Lib.hid (show (Form.nat 13).length ≤ 10 from Form.nat_len10 (by decide))
  have X1 := Lib.hid (show cx[1]? = some (.int .u32 (a : Int)) by rw [hcx]; rfl)
  have X0 := Lib.hid (show cx[0]? = some (.int .u8 (13 : Int)) by rw [hcx]; rfl)
  clear hcx hM
  go_enter Try.func10, Try.ntmps10
  go_upto_region 4 with (first
    | (refine wpList_load_cc rfl (.tmp 1) rfl rfl HX.out hsz ?_)
    | (go_at_call 19; (with_reducible refine (HM.out _).mono ?_); rintro r w2 ⟨rfl, hB⟩; have HX2 := Lib.hid (HX.out.keeps hB.block); have HB2 := Lib.hid (HB0.out.trans (hB.mono HB0.out.size)); have x0 := (HX2.out.at 0).trans X0.out; have hb2 : w.heap.size ≤ w2.heap.size := HB2.out.size; clear hB)
    | (go_at_call 25; (with_reducible refine (nat2_z w.heap.size (.slice none 0 0) [] 13 13 rfl w2 (OB.nil w2 _ _) (by decide) (by decide) hb2).mono ?_); rintro r w3 ⟨p0, k0, c0, rfl, hk0, ho0, hg0, hn0⟩; have HC0 := Lib.hid (CS.made HX2.out HB2.out hg0 (by have h := ho0; rw [List.nil_append] at h; exact h) hn0 HX2.out.lt); rw [List.nil_append] at hk0; have HK := Lib.hid hk0; clear hk0 ho0 hg0 hn0))
  obtain ⟨l0, hl0⟩ : ∃ x, Form.nat 13 = x := ⟨_, rfl⟩
  rw [hl0] at HC0 HK
  have HL0 := Lib.hid hl0
  have HK0 := HK
  clear hl0 HK
  obtain ⟨W0, hW0⟩ : ∃ W0, w3.alloc (.cells #[.slice p0 k0 c0] 39) = W0 := ⟨_, rfl⟩
  rw [hW0] at HC0
  rw [hW0]
  obtain ⟨B, hBe⟩ : ∃ B, w3.heap.size = B := ⟨_, rfl⟩
  rw [hBe] at HC0
  rw [hBe]
  clear hW0 hBe x0 HX2 HB2 hb2 HX HB0
  have LB0 := Lib.hid (show l0.length ≤ 10 from by have h := LenK.out; rw [HL0.out] at h; exact h)
  have y0_0 := (HC0.out.at 0).trans X0.out
  have yv0 := HC0.out.var
  have yf0 := HC0.out.thaw
  have y1_0 := (HC0.out.at 1).trans X1.out
  go_wp2_with (first
    | (go_at_call 26; (with_reducible refine (acc_w a cx B _ l0 w _ HC0.out X1.out ha (Nat.le_trans LB0.out (by decide))).mono ?_); rintro e W1 ⟨rfl, v1, hC⟩; obtain ⟨l1, hl1⟩ : ∃ x, l0 ++ Form.nat a = x := ⟨_, rfl⟩; rw [hl1] at hC; have HL1 := Lib.hid hl1; have LB1 := Lib.hid (show l1.length ≤ 20 from by (have h1 := LB0.out; have h2 := Len0.out; rw [← hl1, List.length_append]; omega)); obtain ⟨p1, c1, rfl⟩ := hC.ob.form; have HC1 := Lib.hid hC; clear hC hl1; have yv1 := HC1.out.var; have yf1 := HC1.out.thaw; have y1_1 := (HC1.out.at 1).trans X1.out))
  have hF : (Form.nat 13 ++ Form.nat a) = l1 := by rw [HL0.out, HL1.out]
  rw [hF]
  go_ret2
  exact ⟨⟨_, _, _, rfl, rfl, HC1.out.ob⟩, HC1.out.below⟩
set_option maxRecDepth 100000 in
set_option maxHeartbeats 6400000 in
theorem cmd_14_w (a n u : Nat) (m : Int) (s : Sp) (o b : Bool) (z : Nat) (p q : Int) (w : World) (cx : Array Value) (hcx : cx = cmc 14 a n u m s o b z p q) (ha : a < 2 ^ 32) (hn : n < 2 ^ 32) (hu : u < 2 ^ 64) (hm : Sp.i64 m) (hs : s.ok) (hz : z < 256) (hp : Sp.i64 p) (hq : Sp.i64 q)
    (hM : ∀ W, Calls Try.prog 19 #[.agg cx] W fun e w' => e = .returned (.bool true) ∧ Below W.heap.size W w') :
    Calls Try.prog 10 #[.agg cx] w (CmdY w ((Form.nat 14 ++ Form.nat n))) := by
  obtain ⟨hm1, hm2⟩ : -9223372036854775808 ≤ m ∧ m ≤ 9223372036854775807 := hm
  obtain ⟨hp1, hp2⟩ : -9223372036854775808 ≤ p ∧ p ≤ 9223372036854775807 := hp
  have hsz : cx.size = 35 := by rw [hcx]; rfl
  have HM := Lib.hid hM
  have HX := Lib.hid (CcAt.new w cx)
  have HB0 := Lib.hid ((Below.refl w.heap.size w).alloc (Nat.le_refl _) (.cells cx 30))
  have Len0 := Lib.hid (show (Form.nat n).length ≤ 10 from Form.nat_len10 (by omega))
  have LenK := Lib.hid (show (Form.nat 14).length ≤ 10 from Form.nat_len10 (by decide))
  have X2 := Lib.hid (show cx[2]? = some (.int .u32 (n : Int)) by rw [hcx]; rfl)
  have X0 := Lib.hid (show cx[0]? = some (.int .u8 (14 : Int)) by rw [hcx]; rfl)
  clear hcx hM
  go_enter Try.func10, Try.ntmps10
  go_upto_region 4 with (first
    | (refine wpList_load_cc rfl (.tmp 1) rfl rfl HX.out hsz ?_)
    | (go_at_call 19; (with_reducible refine (HM.out _).mono ?_); rintro r w2 ⟨rfl, hB⟩; have HX2 := Lib.hid (HX.out.keeps hB.block); have HB2 := Lib.hid (HB0.out.trans (hB.mono HB0.out.size)); have x0 := (HX2.out.at 0).trans X0.out; have hb2 : w.heap.size ≤ w2.heap.size := HB2.out.size; clear hB)
    | (go_at_call 25; (with_reducible refine (nat2_z w.heap.size (.slice none 0 0) [] 14 14 rfl w2 (OB.nil w2 _ _) (by decide) (by decide) hb2).mono ?_); rintro r w3 ⟨p0, k0, c0, rfl, hk0, ho0, hg0, hn0⟩; have HC0 := Lib.hid (CS.made HX2.out HB2.out hg0 (by have h := ho0; rw [List.nil_append] at h; exact h) hn0 HX2.out.lt); rw [List.nil_append] at hk0; have HK := Lib.hid hk0; clear hk0 ho0 hg0 hn0))
  obtain ⟨l0, hl0⟩ : ∃ x, Form.nat 14 = x := ⟨_, rfl⟩
  rw [hl0] at HC0 HK
  have HL0 := Lib.hid hl0
  have HK0 := HK
  clear hl0 HK
  obtain ⟨W0, hW0⟩ : ∃ W0, w3.alloc (.cells #[.slice p0 k0 c0] 39) = W0 := ⟨_, rfl⟩
  rw [hW0] at HC0
  rw [hW0]
  obtain ⟨B, hBe⟩ : ∃ B, w3.heap.size = B := ⟨_, rfl⟩
  rw [hBe] at HC0
  rw [hBe]
  clear hW0 hBe x0 HX2 HB2 hb2 HX HB0
  have LB0 := Lib.hid (show l0.length ≤ 10 from by have h := LenK.out; rw [HL0.out] at h; exact h)
  have y0_0 := (HC0.out.at 0).trans X0.out
  have yv0 := HC0.out.var
  have yf0 := HC0.out.thaw
  have y2_0 := (HC0.out.at 2).trans X2.out
  go_wp2_with (first
    | (go_at_call 27; (with_reducible refine (con_w n cx B _ l0 w _ HC0.out X2.out hn (Nat.le_trans LB0.out (by decide))).mono ?_); rintro e W1 ⟨rfl, v1, hC⟩; obtain ⟨l1, hl1⟩ : ∃ x, l0 ++ Form.nat n = x := ⟨_, rfl⟩; rw [hl1] at hC; have HL1 := Lib.hid hl1; have LB1 := Lib.hid (show l1.length ≤ 20 from by (have h1 := LB0.out; have h2 := Len0.out; rw [← hl1, List.length_append]; omega)); obtain ⟨p1, c1, rfl⟩ := hC.ob.form; have HC1 := Lib.hid hC; clear hC hl1; have yv1 := HC1.out.var; have yf1 := HC1.out.thaw; have y2_1 := (HC1.out.at 2).trans X2.out))
  have hF : (Form.nat 14 ++ Form.nat n) = l1 := by rw [HL0.out, HL1.out]
  rw [hF]
  go_ret2
  exact ⟨⟨_, _, _, rfl, rfl, HC1.out.ob⟩, HC1.out.below⟩
end Go.Proofs.Ytoflehlkacofjaa
