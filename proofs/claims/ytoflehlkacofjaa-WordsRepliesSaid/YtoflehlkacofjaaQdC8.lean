/- A reply copied, by the document. -/
import Derived.Test.YtoflehlkacofjaaQdC6
import Derived.Test.YtoflehlkacofjaaQdC7
namespace Go.Proofs.Ytoflehlkacofjaa
open Go.ChangeShapes Go.WideShapes Go.ChangeAt Go.RowKit
set_option linter.unusedVariables false
section
variable {P : Program} {ops : Array Oper} {rest : List Oper} {o : Oper} {a : Act} {w : World} {Q : Exit → Act → World → Prop}
theorem run_append_owned_none2 (base : Nat) (t ty e : TypeId) (i : TypeInfo) (size : Nat) (ht : P.underlying t = some (.slice e)) (hi : P.info? e = some i)
    (v : Value) (n c : Nat) (xs : List Value) (hown : w.ownsRow base e size v n xs) :
    (Builtin.append_ #[t, t] ty #[v, .slice none 0 c]).run P w = .ok v w := by
  rcases hown.2 with ⟨rfl, rfl⟩ | ⟨g, cap, cur, rfl, _, _, hnc, _⟩
  · simp [Builtin.append_, run_underlying ht, sizeOf, typeInfo, hi, Builtin.lenOf, Builtin.firstCells]
  · simp [Builtin.append_, run_underlying ht, sizeOf, typeInfo, hi, Builtin.lenOf, Builtin.firstCells, hnc, storeCells]
theorem run_append_rdc {base : Nat} {t ty e : TypeId} {z : Value} {size bytes : Nat} (he : Elem P t e z size bytes)
    {v : Value} {n : Nat} {xs : List Value} (hown : w.ownsRow base e size v n xs) {x : Value} {m : Nat} {news : List Value} (hsrc : RdC w x size m news) (h1 : ∀ u ∈ news, u.oneCell' = true)
    (h63 : n + m ≤ maxLen) (hbytes : (n + m) * bytes ≤ 140737488355328) (hbase : base ≤ w.heap.size) :
    ∃ v' w', (Builtin.append_ #[t, t] ty #[v, x]).run P w = .ok v' w' ∧ w'.ownsRow base e size v' (n + m) (xs ++ news) ∧ w.grownBy w' v.ownBlock := by
  obtain ⟨p, c, rfl, hc1, hc2, hl, hp⟩ := hsrc
  cases p with
  | none =>
    have hm : m = 0 := by
      by_cases h : m = 0
      · exact h
      · obtain ⟨b, off, e, _⟩ := hp h; cases e
    subst hm
    have hn : news = [] := List.eq_nil_of_length_eq_zero (by simpa using hl)
    subst hn
    obtain ⟨i, hi, hz, hs, hb⟩ := info_parts he.info
    exact ⟨v, w, run_append_owned_none2 base t ty e i size he.sl hi v n c xs hown, by simpa using hown, World.grownBy.refl _ _⟩
  | some ad =>
    refine run_append_src he hown ⟨some ad, c, rfl, hl, h1, .inr ⟨ad, rfl, fun j u hu => ?_⟩⟩ h63 hbytes hbase
    by_cases h : m = 0
    · subst h
      have hn : news = [] := List.eq_nil_of_length_eq_zero (by simpa using hl)
      subst hn
      simp at hu
    · obtain ⟨b, off, e, hcell⟩ := hp h
      cases e
      have hadd : (⟨b, off, none⟩ : Addr).add j = ⟨b, off + j, none⟩ := by unfold Addr.add; split <;> simp_all
      rw [hadd]
      exact hcell j u hu
theorem wpList_append_rdc (hgd : o.guard = none) (s x : Operand) (t : TypeId) (ho : o.op = .call { callee := .builtin .append, args := #[s, x], argTypes := #[t, t] })
    {base : Nat} {e : TypeId} {z : Value} {size bytes : Nat} (he : Elem P t e z size bytes)
    {v : Value} {xs : List Value} (hs : a.eval s = v) (hown : w.ownsRow base e size v 0 xs) {xv : Value} {m : Nat} {news : List Value} (hx : a.eval x = xv) (hsrc : RdC w xv size m news) (h1 : ∀ u ∈ news, u.oneCell' = true)
    (hm : m ≤ 100000) (hb : bytes ≤ 64) (hbase : base ≤ w.heap.size)
    (h : ∀ p c w', w'.ownsRow base e size (.slice p m c) m (xs ++ news) → w.grownBy w' v.ownBlock → wpList P ops Q rest (a.put o.dst (.slice p m c)) w') : wpList P ops Q (o :: rest) a w := by
  refine wpList_plain hgd fun _ hK => ?_
  obtain ⟨v', w', hr, h2, h3⟩ := run_append_rdc (ty := o.type) he hown hsrc h1 (by unfold maxLen; omega) (by have : (0 + m) * bytes ≤ (0 + m) * 64 := Nat.mul_le_mul_left _ hb; omega) hbase
  rw [Nat.zero_add] at h2
  obtain ⟨p, c, rfl⟩ := own_form h2
  unfold Oper.wp execOp
  simp only [ho, resolve, invoke, builtin, Sem.run_bind, Sem.run_pure, Result.andThen_ok, List.map_toArray, List.map_cons, List.map_nil, hs, hx, hr]
  exact hK _ _ (h p c w' h2 h3)
end
/-- A reply is being copied: it, the result. -/
structure CR (w W : World) (cs : Array Value) : Prop where
  x : RrAt W w.heap.size cs
  z : RrAt W (w.heap.size + 1) zR
  below : Below w.heap.size w W
section
variable {w W W' : World} {cs : Array Value}
theorem CR.sz (h : CR w W cs) : w.heap.size + 1 < W.heap.size := h.z.lt
theorem CR.keep (h : CR w W cs) (hB : Below W.heap.size W W') : CR w W' cs := ⟨h.x.keeps hB.block, h.z.keeps hB.block, h.below.trans (hB.mono h.below.size)⟩
theorem CR.set (h : CR w W cs) (i : Nat) (v : Value) : CR w (W.setCell ⟨w.heap.size, i, none⟩ v) (cs.setIfInBounds i v) := by
  have hg := Lib.grownBy_setCell W w.heap.size i v
  refine ⟨?_, ?_, h.below.grown hg h.below.size (fun k e => by cases e; exact Nat.le_refl _)⟩
  · have hb := h.x
    unfold RrAt at *
    simp only [World.setCell, Array.getElem?_modify, hb, if_true, Option.map_some]
    rfl
  · unfold RrAt
    rw [hg.block _ h.z.lt (by simp)]
    exact h.z
theorem CR.thaw (h : CR w W cs) (i : Nat) : W.frozen? ⟨w.heap.size, i, none⟩ = false := by
  have hb := h.x
  unfold RrAt at hb
  simp [World.frozen?, hb]
theorem CR.start (w : World) (cs : Array Value) : CR w ((w.alloc (.cells cs 36)).alloc (.cells zR 36)) cs := by
  obtain ⟨h1, h2, h3⟩ := two_at w cs zR
  exact ⟨h1, h2, h3⟩
end
theorem tr_one (l : List Tr) : ∀ u ∈ l.flatMap Tr.cells, u.oneCell' = true := by
  intro u hu
  obtain ⟨t, _, h⟩ := List.mem_flatMap.1 hu
  unfold Tr.cells at h
  simp only [List.mem_cons, List.mem_nil_iff, or_false] at h
  rcases h with rfl | rfl | rfl | rfl <;> rfl
theorem n_one (k : IntKind) (l : List Nat) : ∀ u ∈ l.map (fun (n : Nat) => Value.int k (n : Int)), u.oneCell' = true := by
  intro u hu
  obtain ⟨t, _, rfl⟩ := List.mem_map.1 hu
  rfl
theorem rdn_of2 {w : World} {base : Nat} {t : TypeId} {k : IntKind} {sv : Value} {l : List Nat} (h : w.ownsRow base t 1 sv l.length (l.map fun (n : Nat) => Value.int k (n : Int))) : RdN w sv k l := own_rdc h
theorem lit0 (w : World) (e : TypeId) (c : Nat) : (w.alloc (.cells #[] e)).ownsRow w.heap.size e c (.slice (some ⟨w.heap.size, 0, none⟩) 0 0) 0 [] := World.ownsRow_lit w #[] 0 (Nat.le_refl _) (by unfold maxLen; omega) (by simp)
theorem below_app {W w2 : World} {e : TypeId} (hg : (W.alloc (.cells #[] e)).grownBy w2 (Value.slice (some ⟨W.heap.size, 0, none⟩) 0 0).ownBlock) : Below W.heap.size W w2 :=
  ((Below.refl W.heap.size W).alloc (Nat.le_refl _) _).grown hg (by simp) (fun k e => by simp [Value.ownBlock] at e; omega)
set_option maxRecDepth 100000 in
set_option maxHeartbeats 6400000 in
theorem copy13_w (x : Rp) (tv gv av : Value) (w : World) (h : RpA w tv gv av x) (ht : x.trades.length ≤ 5000) (hg : x.gone.length ≤ 5000) (ha : x.accounts.length ≤ 5000) :
    Calls Try.prog 13 #[.agg (rpc x tv gv av)] w fun e w' => (∃ tv' gv' av', e = .returned (.agg (rpc x tv' gv' av')) ∧ RpA w' tv' gv' av' x) ∧ Below w.heap.size w w' := by
  have H := Lib.hid h
  have HC0 := Lib.hid (CR.start w (rpc x tv gv av))
  obtain ⟨⟨pt, ct, rfl⟩, ⟨pg, cg, rfl⟩, ⟨pa, ca, rfl⟩⟩ := h.forms
  obtain ⟨W0, hW0⟩ : ∃ W0, (w.alloc (.cells (rpc x (.slice pt x.trades.length ct) (.slice pg x.gone.length cg) (.slice pa x.accounts.length ca)) 36)).alloc (.cells zR 36) = W0 := ⟨_, rfl⟩
  rw [hW0] at HC0
  have HW0 := Lib.hid hW0
  have HK0 := Lib.hid (show Keeps w W0 from HC0.out.below.block)
  have hz := hz36
  obtain ⟨zc, hzc⟩ : ∃ zc, zR = zc := ⟨_, rfl⟩
  rw [hzc] at hz HW0
  have hzs : zc.size = 7 := by rw [← hzc]; rfl
  have Hzc := Lib.hid hzc
  have x4 := (HC0.out.x.keeps ((Keeps.refl W0).alloc (.cells #[] 62))).at 4
  have z4 := HC0.out.thaw 4
  have Ht := Lib.hid ht
  have Hg := Lib.hid hg
  have Ha := Lib.hid ha
  clear h hW0 hzc ht hg ha
  unfold rpc at *
  have HT := Lib.hid (H.out.t.keeps HK0.out)
  have HG := Lib.hid (H.out.g.keeps HK0.out)
  have HA := Lib.hid (H.out.a.keeps HK0.out)
  have HOk := Lib.hid H.out.ok
  have HGw := Lib.hid H.out.g
  have HAw := Lib.hid H.out.a
  generalize hen : x.errno = en at *
  generalize hnu : x.number = nu at *
  generalize hfi : x.filled = fi at *
  generalize hle : x.left = le at *
  generalize htt : x.trades = ts at *
  generalize hgg : x.gone = gs at *
  generalize haa : x.accounts = zs at *
  have Hx := Lib.hid (And.intro hen (And.intro hnu (And.intro hfi (And.intro hle (And.intro htt (And.intro hgg haa))))))
  clear hen hnu hfi hle htt hgg haa
  have HGc := Lib.hid (show RdC w (.slice pg gs.length cg) 1 gs.length (gs.map fun (n : Nat) => Value.int .u64 (n : Int)) from HGw.out)
  have HAc := Lib.hid (show RdC w (.slice pa zs.length ca) 1 zs.length (zs.map fun (n : Nat) => Value.int .u32 (n : Int)) from HAw.out)
  go_enter Try.func13, Try.ntmps13
  go_upto_region 1 with (refine wpList_alloc_zero rfl 36 rfl _ hz ?_)
  rw [HW0.out]
  go_upto_region 2 with (at_builtin; with_reducible refine wpList_append_rdc rfl _ _ 32 rfl he32 rfl (lit0 W0 62 4) rfl (RdC.keeps HT.out ((Keeps.refl W0).alloc _)) (tr_one ts) (Nat.le_trans Ht.out (by decide)) (by decide) (by simp) ?_; intro p1 c1 w1 ho hg; have HB1 := Lib.hid (below_app hg); have HC1 := Lib.hid (HC0.out.keep HB1.out); have y4 := HC1.out.x.at 4; have q4 := HC1.out.thaw 4; have HO1 := Lib.hid ho; clear ho hg)
  obtain ⟨V1, hV1⟩ : ∃ V1, w1.setCell ⟨w.heap.size, 4, none⟩ (.slice p1 ts.length c1) = V1 := ⟨_, rfl⟩
  have HD1 := Lib.hid (show CR w V1 #[.int .i64 en, .int .u64 (nu : Int), .int .i64 fi, .int .i64 le, .slice p1 ts.length c1, .slice pg gs.length cg, .slice pa zs.length ca] from by rw [← hV1]; exact HC1.out.set 4 (.slice p1 ts.length c1))
  have HO1b := Lib.hid (show V1.ownsRow W0.heap.size 62 4 (.slice p1 ts.length c1) ts.length (ts.flatMap Tr.cells) from by rw [← hV1]; exact own_moved HO1.out (Lib.grownBy_setCell w1 w.heap.size 4 _) (Nat.lt_of_succ_lt HC0.out.sz))
  have HKV1 := Lib.hid (show Keeps w V1 from HD1.out.below.block)
  rw [hV1]
  clear hV1 y4 q4 x4 z4
  have x5 := (HD1.out.x.keeps ((Keeps.refl V1).alloc (.cells #[] 24))).at 5
  go_upto_region 3 with (at_builtin; with_reducible refine wpList_append_rdc rfl _ _ 33 rfl he33 rfl (lit0 V1 24 1) rfl (RdC.keeps (RdC.keeps HGc.out HKV1.out) ((Keeps.refl V1).alloc _)) (n_one .u64 gs) (Nat.le_trans Hg.out (by decide)) (by decide) (by simp) ?_; intro p2 c2 w2 ho hg; have HB2 := Lib.hid (below_app hg); have HC2 := Lib.hid (HD1.out.keep HB2.out); have y5 := HC2.out.x.at 5; have q5 := HC2.out.thaw 5; have HO2 := Lib.hid ho; clear ho hg)
  obtain ⟨V2, hV2⟩ : ∃ V2, w2.setCell ⟨w.heap.size, 5, none⟩ (.slice p2 gs.length c2) = V2 := ⟨_, rfl⟩
  have HD2 := Lib.hid (show CR w V2 #[.int .i64 en, .int .u64 (nu : Int), .int .i64 fi, .int .i64 le, .slice p1 ts.length c1, .slice p2 gs.length c2, .slice pa zs.length ca] from by rw [← hV2]; exact HC2.out.set 5 (.slice p2 gs.length c2))
  have HO2a := Lib.hid (show V2.ownsRow W0.heap.size 62 4 (.slice p1 ts.length c1) ts.length (ts.flatMap Tr.cells) from by rw [← hV2]; exact own_moved (own_below HO1b.out HB2.out) (Lib.grownBy_setCell w2 w.heap.size 5 _) (Nat.lt_of_succ_lt HC0.out.sz))
  have HO2b := Lib.hid (show V2.ownsRow V1.heap.size 24 1 (.slice p2 gs.length c2) gs.length (gs.map fun (n : Nat) => Value.int .u64 (n : Int)) from by rw [← hV2]; exact own_moved HO2.out (Lib.grownBy_setCell w2 w.heap.size 5 _) (Nat.lt_of_succ_lt HD1.out.sz))
  have HKV2 := Lib.hid (show Keeps w V2 from HD2.out.below.block)
  rw [hV2]
  clear hV2 y5 q5 x5
  have x6 := (HD2.out.x.keeps ((Keeps.refl V2).alloc (.cells #[] 23))).at 6
  go_upto_region 4 with (at_builtin; with_reducible refine wpList_append_rdc rfl _ _ 34 rfl he34 rfl (lit0 V2 23 1) rfl (RdC.keeps (RdC.keeps HAc.out HKV2.out) ((Keeps.refl V2).alloc _)) (n_one .u32 zs) (Nat.le_trans Ha.out (by decide)) (by decide) (by simp) ?_; intro p3 c3 w3 ho hg; have HB3 := Lib.hid (below_app hg); have HC3 := Lib.hid (HD2.out.keep HB3.out); have y6 := HC3.out.x.at 6; have q6 := HC3.out.thaw 6; have HO3 := Lib.hid ho; clear ho hg)
  obtain ⟨V3, hV3⟩ : ∃ V3, w3.setCell ⟨w.heap.size, 6, none⟩ (.slice p3 zs.length c3) = V3 := ⟨_, rfl⟩
  have HD3 := Lib.hid (show CR w V3 #[.int .i64 en, .int .u64 (nu : Int), .int .i64 fi, .int .i64 le, .slice p1 ts.length c1, .slice p2 gs.length c2, .slice p3 zs.length c3] from by rw [← hV3]; exact HC3.out.set 6 (.slice p3 zs.length c3))
  have HO3a := Lib.hid (show V3.ownsRow W0.heap.size 62 4 (.slice p1 ts.length c1) ts.length (ts.flatMap Tr.cells) from by rw [← hV3]; exact own_moved (own_below HO2a.out HB3.out) (Lib.grownBy_setCell w3 w.heap.size 6 _) (Nat.lt_of_succ_lt HC0.out.sz))
  have HO3b := Lib.hid (show V3.ownsRow V1.heap.size 24 1 (.slice p2 gs.length c2) gs.length (gs.map fun (n : Nat) => Value.int .u64 (n : Int)) from by rw [← hV3]; exact own_moved (own_below HO2b.out HB3.out) (Lib.grownBy_setCell w3 w.heap.size 6 _) (Nat.lt_of_succ_lt HD1.out.sz))
  have HO3c := Lib.hid (show V3.ownsRow V2.heap.size 23 1 (.slice p3 zs.length c3) zs.length (zs.map fun (n : Nat) => Value.int .u32 (n : Int)) from by rw [← hV3]; exact own_moved HO3.out (Lib.grownBy_setCell w3 w.heap.size 6 _) (Nat.lt_of_succ_lt HD2.out.sz))
  rw [hV3]
  clear hV3 y6 q6 x6
  obtain ⟨cf, hcf⟩ : ∃ cf : Array Value, #[.int .i64 en, .int .u64 (nu : Int), .int .i64 fi, .int .i64 le, .slice p1 ts.length c1, .slice p2 gs.length c2, .slice p3 zs.length c3] = cf := ⟨_, rfl⟩
  rw [hcf] at HD3
  have hcs : cf.size = 7 := by rw [← hcf]; rfl
  have HCo := Lib.hid (show cf.all (·.oneCell') = true by rw [← hcf]; simp [Value.oneCell'])
  have Hcf := Lib.hid hcf
  clear hcf
  go_wp2_with (first
    | (refine wpList_load_rr rfl (.tmp 1) rfl rfl HD3.out.x hcs ?_)
    | (refine wpList_store_rowTo rfl 36 (.tmp 2) (.tmp 18) rfl rfl _ cf rfl rfl 36 zc (by rw [← Hzc.out]; exact HD3.out.z) (show _ = some cf.size by rw [hcs]; kernel_rfl) (by rw [hcs, hzs]) HCo.out ?_))
  have hres := setRow_heap V3 (w.heap.size + 1) zR cf 36 (0, 0) HD3.out.z
  have hset : ∀ {base : Nat} {t : TypeId} {c : Nat} {sv : Value} {n : Nat} {xs : List Value}, w.heap.size + 1 < base → V3.ownsRow base t c sv n xs → (V3.setRow (w.heap.size + 1) cf).ownsRow base t c sv n xs := by
    intro base t c sv n xs hb ho
    refine ⟨ho.1, ?_⟩
    rcases ho.2 with h2 | ⟨g, cap, cur, hv, hgb, hh, r⟩
    · exact .inl h2
    · exact .inr ⟨g, cap, cur, hv, hgb, by rw [setRow_other _ _ _ _ (by omega)]; exact hh, r⟩
  refine bodyPost_ret (v := .agg cf) (results_cell_row rfl _ _ (w.heap.size + 1) 36 _ _ _ rfl hres Try.underlying36 rfl (show _ = some cf.size by rw [hcs]; kernel_rfl)) rfl ?_
  obtain ⟨x0, x1, x2, x3, x4, x5, x6⟩ := Hx.out
  refine ⟨⟨.slice p1 ts.length c1, .slice p2 gs.length c2, .slice p3 zs.length c3, ?_, ?_⟩, ?_⟩
  · rw [← Hcf.out, ← x0, ← x1, ← x2, ← x3]
  · refine ⟨?_, ?_, ?_, HOk.out⟩
    · rw [x4]; exact own_rdc (hset HC0.out.sz HO3a.out)
    · rw [x5]; exact rdn_of2 (hset HD1.out.sz HO3b.out)
    · rw [x6]; exact rdn_of2 (hset HD2.out.sz HO3c.out)
  · exact HD3.out.below.trans ⟨rfl, rfl, rfl, by simp [World.setRow], fun k hk => setRow_other _ _ _ _ (by omega)⟩
end Go.Proofs.Ytoflehlkacofjaa
