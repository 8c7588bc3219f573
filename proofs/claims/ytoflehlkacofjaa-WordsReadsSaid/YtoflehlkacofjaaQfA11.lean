/- What a reply is written as: words.Reply. -/
import Derived.Test.YtoflehlkacofjaaQfA10
import Derived.Deep.Cut
namespace Go.Proofs.Ytoflehlkacofjaa
open Go.ChangeShapes Go.WideShapes Go.ChangeAt Go.RowKit
set_option linter.unusedVariables false
/-- A reply's cells lie at block B. -/
def RrAt (w : World) (B : Nat) (cs : Array Value) : Prop := w.heap[B]? = some (.cells cs 36)
theorem RrAt.new (w : World) (cs : Array Value) : RrAt (w.alloc (.cells cs 36)) w.heap.size cs := heap_alloc_new w _
theorem RrAt.lt {w : World} {B : Nat} {cs : Array Value} (h : RrAt w B cs) : B < w.heap.size := (Array.getElem?_eq_some_iff.1 h).1
theorem RrAt.keeps {w w' : World} {B : Nat} {cs : Array Value} (h : RrAt w B cs) (hk : Keeps w w') : RrAt w' B cs := by unfold RrAt; rw [hk B h.lt]; exact h
theorem RrAt.at {w : World} {B : Nat} {cs : Array Value} (h : RrAt w B cs) (i : Nat) : w.cell? ⟨B, i, none⟩ = cs[i]? := cell_of_row _ _ _ _ _ _ h
theorem wpList_load_rr {ops : Array Oper} {rest : List Oper} {o : Oper} {a : Act} {w : World} {Q : Exit → Act → World → Prop} {B : Nat} {cs : Array Value} (hw : Region.wanted o (yielded ops a.tmps) = true) (x : Operand) (ho : o.op = .load 36 x)
    (hx : a.eval x = .pointer (some ⟨B, 0, none⟩)) (h : RrAt w B cs) (hs : cs.size = 7) (k : wpList Try.prog ops Q rest (a.put o.dst (.agg cs)) w) : wpList Try.prog ops Q (o :: rest) a w := by
  unfold wpList
  rw [if_pos hw]
  exact .inl (wp_load_row 36 x ho B hx 36 cs (0, 0) _ h Try.underlying36 rfl (show _ = some cs.size by rw [hs]; kernel_rfl) k)
theorem orderP_w (base : Nat) (v : Value) (l : List UInt8) (p q : Int) (w : World) (ho : OB w base 5 v l) (hp : Sp.i64 p) (hq : Sp.i64 q) (hl : l.length ≤ 900000) (hb : base ≤ w.heap.size) :
    Calls Try.prog 31 #[v, .int .i64 p, .int .i64 q] w (PutP base w (l ++ (Form.nat (Form.fold p) ++ Form.nat (Form.fold q)))) :=
  (order_w base v l p q w ho hp hq hl hb).mono fun e w' ⟨a, k, c, h1, h2, h3, h4, _⟩ => ⟨a, k, c, h1, h2, h3, (Below.refl base w).grown h4 hb (fun k e => (ho.lt k e).1)⟩
theorem put25_z (base : Nat) (v : Value) (l : List UInt8) (z : Int) (n : Nat) (hz : z = (n : Int)) (w : World) (ho : OB w base 5 v l) (hn : n < 2 ^ 64) (hl : l.length ≤ 1000000) (hb : base ≤ w.heap.size) :
    Calls Try.prog 25 #[v, .int .u64 z] w (PutP base w (l ++ Form.nat n)) := by subst hz; exact put25_w base v l n w ho hn hl hb
theorem mayR_open {x : Rp} (h : x.mayB = true) : 0 ≤ x.errno ∧ x.errno ≤ 999 ∧ x.trades.length ≤ 4000 ∧ x.gone.length ≤ 4000 ∧ x.accounts.length ≤ 4000 := by
  unfold Rp.mayB mayRB at h
  simp only [Bool.and_eq_true, decide_eq_true_eq] at h
  exact ⟨h.1, h.2.1, h.2.2.2.1, h.2.2.2.2.1, h.2.2.2.2.2⟩
set_option maxRecDepth 100000 in
set_option maxHeartbeats 3200000 in
theorem reply_err_w (x : Rp) (tv gv av : Value) (w : World) (h : RpA w tv gv av x) (hm : x.mayB = true) (h0 : x.errno ≠ 0) : Calls Try.prog 11 #[.agg (rpc x tv gv av)] w (CmdY w (Form.nat x.errno.toNat)) := by
  obtain ⟨m1, m2, m3, m4, m5⟩ := mayR_open hm
  obtain ⟨W1, hW1⟩ : ∃ W1, w.alloc (.cells (rpc x tv gv av) 36) = W1 := ⟨_, rfl⟩
  have HX := Lib.hid (show RrAt W1 w.heap.size (rpc x tv gv av) from by rw [← hW1]; exact RrAt.new w _)
  have HB0 := Lib.hid (show Below w.heap.size w W1 from by rw [← hW1]; exact (Below.refl w.heap.size w).alloc (Nat.le_refl _) _)
  have HA := Lib.hid (h.keeps (show Keeps w W1 from HB0.out.block))
  have HM := Lib.hid (fun W (hk : Keeps W1 W) => (show Calls Try.prog 14 #[.agg (rpc x tv gv av)] W fun e w' => e = .returned (.bool true) ∧ Below W.heap.size W w' from by have h := mayR14_w x tv gv av W (HA.out.keeps hk); rw [hm] at h; exact h))
  have HW1 := Lib.hid hW1
  have hsz : (rpc x tv gv av).size = 7 := rfl
  have X0 := Lib.hid (show (rpc x tv gv av)[0]? = some (.int .i64 x.errno) from rfl)
  clear h hm hW1
  generalize rpc x tv gv av = cx at *
  obtain ⟨k, hk⟩ : ∃ k : Nat, x.errno = (k : Int) := ⟨x.errno.toNat, by omega⟩
  rw [hk] at m2 h0 X0
  rw [hk, Int.toNat_natCast]
  obtain ⟨F, hF⟩ : ∃ F, Form.nat k = F := ⟨_, rfl⟩
  rw [hF]
  have hwk : IntKind.u64.wrap (k : Int) = (k : Int) := IntWalk.u64_in _ (by omega)
  have hne : ((k : Int) != 0) = true := by simp; omega
  have HF := Lib.hid hF
  clear hk hF m1 h0
  go_enter Try.func11, Try.ntmps11
  go_upto_region 1 with fail
  rw [HW1.out]
  go_wp2_with (first
    | (refine wpList_load_rr rfl (.tmp 1) rfl rfl HX.out hsz ?_)
    | (go_at_call 14; (with_reducible refine (HM.out _ (Keeps.refl _)).mono ?_); rintro r w2 ⟨rfl, hB⟩; have HB2 := Lib.hid hB; have x0 := ((HX.out.keeps hB.block).at 0).trans X0.out; have hb2 : W1.heap.size ≤ w2.heap.size := hB.size; clear hB)
    | (go_at_call 25; (with_reducible refine (put25_z W1.heap.size (.slice none 0 0) [] (k : Int) k rfl w2 (OB.nil w2 _ _) (by omega) (by decide) hb2).mono ?_); rintro r w3 ⟨p3, k3, c3, rfl, hk, ho, hB⟩; rw [List.nil_append] at hk ho; have HK3 := Lib.hid hk; have HO3 := Lib.hid ho; have HB3 := Lib.hid (HB2.out.trans hB); have y0 := ((HX.out.keeps HB3.out.block).at 0).trans X0.out; rw [HF.out] at HK3 HO3; clear hk ho hB))
  go_ret2
  exact ⟨⟨_, _, _, rfl, HK3.out, ownsRow_mono_base HO3.out HB0.out.size⟩, HB0.out.trans (HB3.out.mono HB0.out.size)⟩
set_option maxRecDepth 100000 in
set_option maxHeartbeats 3200000 in
theorem reply_ok_w (x : Rp) (tv gv av : Value) (w : World) (h : RpA w tv gv av x) (hm : x.mayB = true) (h0 : x.errno = 0) :
    Calls Try.prog 11 #[.agg (rpc x tv gv av)] w (CmdY w ((((Form.nat 0 ++ Form.nat x.number) ++ (Form.nat (Form.fold x.filled) ++ Form.nat (Form.fold x.left))) ++ natsT x.trades ++ natsN x.gone) ++ natsN x.accounts)) := by
  obtain ⟨m1, m2, m3, m4, m5⟩ := mayR_open hm
  obtain ⟨W1, hW1⟩ : ∃ W1, w.alloc (.cells (rpc x tv gv av) 36) = W1 := ⟨_, rfl⟩
  have HX := Lib.hid (show RrAt W1 w.heap.size (rpc x tv gv av) from by rw [← hW1]; exact RrAt.new w _)
  have HB0 := Lib.hid (show Below w.heap.size w W1 from by rw [← hW1]; exact (Below.refl w.heap.size w).alloc (Nat.le_refl _) _)
  have HA := Lib.hid (h.keeps (show Keeps w W1 from HB0.out.block))
  have HM := Lib.hid (fun W (hk : Keeps W1 W) => (show Calls Try.prog 14 #[.agg (rpc x tv gv av)] W fun e w' => e = .returned (.bool true) ∧ Below W.heap.size W w' from by have h := mayR14_w x tv gv av W (HA.out.keeps hk); rw [hm] at h; exact h))
  have HW1 := Lib.hid hW1
  have hsz : (rpc x tv gv av).size = 7 := rfl
  have X0 := Lib.hid (show (rpc x tv gv av)[0]? = some (.int .i64 0) from by rw [← h0]; rfl)
  have X1 := Lib.hid (show (rpc x tv gv av)[1]? = some (.int .u64 (x.number : Int)) from rfl)
  have X2 := Lib.hid (show (rpc x tv gv av)[2]? = some (.int .i64 x.filled) from rfl)
  have X3 := Lib.hid (show (rpc x tv gv av)[3]? = some (.int .i64 x.left) from rfl)
  have X4 := Lib.hid (show (rpc x tv gv av)[4]? = some tv from rfl)
  have X5 := Lib.hid (show (rpc x tv gv av)[5]? = some gv from rfl)
  have X6 := Lib.hid (show (rpc x tv gv av)[6]? = some av from rfl)
  have hnu := h.ok.number
  have Hfi := Lib.hid h.ok.filled
  have Hle := Lib.hid h.ok.left
  have L1 := Lib.hid (Form.nat_len10 hnu)
  have L2 := Lib.hid (Form.nat_len10 (Form.fold_lt h.ok.filled.1 h.ok.filled.2))
  have L3 := Lib.hid (Form.nat_len10 (Form.fold_lt h.ok.left.1 h.ok.left.2))
  have LT := Lib.hid (show (natsT x.trades).length ≤ 160010 from by
    have h1 := flatT_len _ h.ok.trades
    have h2 := Form.nat_len10 (n := x.trades.length) (by omega)
    unfold natsT; rw [List.length_append]; omega)
  have LG := Lib.hid (show (natsN x.gone).length ≤ 40010 from by
    have h1 := flatN_len _ h.ok.gone
    have h2 := Form.nat_len10 (n := x.gone.length) (by omega)
    unfold natsN; rw [List.length_append]; omega)
  have L0 := Lib.hid (show (Form.nat 0).length ≤ 10 from Form.nat_len10 (by decide))
  obtain ⟨⟨pt, ct, rfl⟩, ⟨pg, cg, rfl⟩, ⟨pa, ca, rfl⟩⟩ := h.forms
  clear h hm hW1 h0
  generalize rpc x _ _ _ = cx at *
  obtain ⟨F0, hF0⟩ : ∃ F, Form.nat 0 = F := ⟨_, rfl⟩
  obtain ⟨F1, hF1⟩ : ∃ F, F0 ++ Form.nat x.number = F := ⟨_, rfl⟩
  obtain ⟨F2, hF2⟩ : ∃ F, F1 ++ (Form.nat (Form.fold x.filled) ++ Form.nat (Form.fold x.left)) = F := ⟨_, rfl⟩
  obtain ⟨F3, hF3⟩ : ∃ F, F2 ++ natsT x.trades = F := ⟨_, rfl⟩
  obtain ⟨F4, hF4⟩ : ∃ F, F3 ++ natsN x.gone = F := ⟨_, rfl⟩
  obtain ⟨F5, hF5⟩ : ∃ F, F4 ++ natsN x.accounts = F := ⟨_, rfl⟩
  rw [hF0, hF1, hF2, hF3, hF4, hF5]
  have M0 := Lib.hid (show F0.length ≤ 10 from by have h := L0.out; rw [hF0] at h; exact h)
  have M1 := Lib.hid (show F1.length ≤ 20 from by have h := L1.out; have h2 := M0.out; rw [← hF1, List.length_append]; omega)
  have M2 := Lib.hid (show F2.length ≤ 40 from by have h := L2.out; have h2 := L3.out; have h3 := M1.out; rw [← hF2, List.length_append, List.length_append]; omega)
  have M3 := Lib.hid (show F3.length ≤ 160050 from by have h := LT.out; have h3 := M2.out; rw [← hF3, List.length_append]; omega)
  have M4 := Lib.hid (show F4.length ≤ 200060 from by have h := LG.out; have h3 := M3.out; rw [← hF4, List.length_append]; omega)
  have E0 := Lib.hid hF0
  have E1 := Lib.hid hF1
  have E2 := Lib.hid hF2
  have E3 := Lib.hid hF3
  have E4 := Lib.hid hF4
  have E5 := Lib.hid hF5
  have HR := Lib.hid (And.intro m3 (And.intro m4 m5))
  have HO_ := Lib.hid HA.out.ok
  generalize hnn : x.number = nu at *
  generalize hff : x.filled = fi at *
  generalize hll : x.left = le at *
  clear hF0 hF1 hF2 hF3 hF4 hF5 m1 m2 m3 m4 m5 hnn hff hll
  go_enter Try.func11, Try.ntmps11
  go_upto_region 1 with fail
  rw [HW1.out]
  go_upto_region 6 with (first
    | (refine wpList_load_rr rfl (.tmp 1) rfl rfl HX.out hsz ?_)
    | (go_at_call 14; (with_reducible refine (HM.out _ (Keeps.refl _)).mono ?_); rintro r w2 ⟨rfl, hB⟩; have HB2 := Lib.hid hB; have x0 := ((HX.out.keeps hB.block).at 0).trans X0.out; have hb2 : W1.heap.size ≤ w2.heap.size := hB.size; clear hB)
    | (go_at_call 25; (with_reducible refine (put25_z W1.heap.size (.slice none 0 0) [] 0 0 rfl w2 (OB.nil w2 _ _) (by omega) (by decide) hb2).mono ?_); rintro r w3 ⟨p3, k3, c3, rfl, hk, ho, hB⟩; rw [List.nil_append] at hk ho; have HK3 := Lib.hid hk; have HO3 := Lib.hid ho; have HB3 := Lib.hid (HB2.out.trans hB); have y0 := ((HX.out.keeps HB3.out.block).at 0).trans X0.out; rw [E0.out] at HK3 HO3; clear hk ho hB))
  have Hc := Lib.hid (fun (W : World) (h : Below W1.heap.size W1 W) (i : Nat) => (show W.cell? ⟨w.heap.size, i, none⟩ = cx[i]? from (HX.out.keeps h.block).at i))
  have f1 := (Hc.out _ HB3.out 1).trans X1.out
  have f2 := (Hc.out _ HB3.out 2).trans X2.out
  have f3 := (Hc.out _ HB3.out 3).trans X3.out
  have HO3d := Lib.hid (show OB w3.drew W1.heap.size 5 (.slice p3 k3 c3) F0 from HO3.out.keeps (Keeps.refl _).drew)
  have hs3 : W1.heap.size ≤ w3.drew.heap.size := HB3.out.size
  go_region_held3 (fun w' => w'.cell? ⟨w.heap.size, 1, none⟩ = some (.int .u64 (nu : Int)) ∧ w'.cell? ⟨w.heap.size, 2, none⟩ = some (.int .i64 fi) ∧ w'.cell? ⟨w.heap.size, 3, none⟩ = some (.int .i64 le)) (go_keep) (first
    | (go_at_call 25; (with_reducible refine (put25_w W1.heap.size _ F0 nu _ HO3d.out hnu (Nat.le_trans M0.out (by decide)) hs3).mono ?_); rintro e R1 ⟨r1, k1, s1, rfl, hk, ho, hB⟩; rw [E1.out] at hk ho; have K1 := Lib.hid hk; have O1 := Lib.hid ho; have B1 := Lib.hid (HB3.out.drew.trans hB); have S1 := Lib.hid B1.out.size; have g1 := (Hc.out _ B1.out 1).trans X1.out; have g2 := (Hc.out _ B1.out 2).trans X2.out; have g3 := (Hc.out _ B1.out 3).trans X3.out; clear hk ho hB)
    | (go_at_call 31; (with_reducible refine (orderP_w W1.heap.size _ F1 fi le _ O1.out Hfi.out Hle.out (Nat.le_trans M1.out (by decide)) S1.out).mono ?_); rintro e R2 ⟨r2, k2, s2, rfl, hk, ho, hB⟩; rw [E2.out] at hk ho; have K2 := Lib.hid hk; have O2 := Lib.hid ho; have B2 := Lib.hid (B1.out.trans hB); have g1 := (Hc.out _ B2.out 1).trans X1.out; have g2 := (Hc.out _ B2.out 2).trans X2.out; have g3 := (Hc.out _ B2.out 3).trans X3.out; clear hk ho hB))
  have f4 := (Hc.out _ B2.out 4).trans X4.out
  go_wp2_with (first
    | (go_at_call 32; (with_reducible refine (list32_w W1 _ _ F2 x.trades _ O2.out HA.out.t B2.out HO_.out.trades (Nat.le_trans HR.out.1 (by decide)) (Nat.le_trans M2.out (by decide))).mono ?_); rintro e R3 ⟨r3, k3', s3, rfl, hk, ho, hB⟩; rw [E3.out] at hk ho; have K3 := Lib.hid hk; have O3 := Lib.hid ho; have B3 := Lib.hid (B2.out.trans hB); have f5 := (Hc.out _ B3.out 5).trans X5.out; clear hk ho hB)
    | (go_at_call 34; (with_reducible refine (list34_w W1 _ _ F3 x.gone _ O3.out HA.out.g B3.out HO_.out.gone (Nat.le_trans HR.out.2.1 (by decide)) (Nat.le_trans M3.out (by decide))).mono ?_); rintro e R4 ⟨r4, k4, s4, rfl, hk, ho, hB⟩; rw [E4.out] at hk ho; have K4 := Lib.hid hk; have O4 := Lib.hid ho; have B4 := Lib.hid (B3.out.trans hB); have f6 := (Hc.out _ B4.out 6).trans X6.out; clear hk ho hB)
    | (go_at_call 35; (with_reducible refine (list35_w W1 _ _ F4 x.accounts _ O4.out HA.out.a B4.out HO_.out.accounts (Nat.le_trans HR.out.2.2 (by decide)) (Nat.le_trans M4.out (by decide))).mono ?_); rintro e R5 ⟨r5, k5, s5, rfl, hk, ho, hB⟩; rw [E5.out] at hk ho; have K5 := Lib.hid hk; have O5 := Lib.hid ho; have B5 := Lib.hid (B4.out.trans hB); clear hk ho hB))
  go_ret2
  exact ⟨⟨_, _, _, rfl, K5.out, ownsRow_mono_base O5.out HB0.out.size⟩, HB0.out.trans (B5.out.mono HB0.out.size)⟩
theorem reply_yes_w (x : Rp) (tv gv av : Value) (w : World) (h : RpA w tv gv av x) (hm : x.mayB = true) : Calls Try.prog 11 #[.agg (rpc x tv gv av)] w (CmdY w x.form) := by
  unfold Rp.form
  by_cases h0 : x.errno = 0
  · rw [if_pos h0]; exact reply_ok_w x tv gv av w h hm h0
  · rw [if_neg h0]; exact reply_err_w x tv gv av w h hm h0
/-- The bytes of a reply, and the error. -/
def Rp.bytes (x : Rp) : List UInt8 := if x.mayB = true then x.form else []
end Go.Proofs.Ytoflehlkacofjaa
