/- Trades put behind bytes. -/
import Derived.Test.YtoflehlkacofjaaQcA7
namespace Go.Proofs.Ytoflehlkacofjaa
open Go.ChangeShapes Go.WideShapes Go.ChangeAt Go.RowKit
set_option linter.unusedVariables false
def trC (p q : Int) (n a : Nat) : Array Value := #[.int .i64 p, .int .i64 q, .int .u64 (n : Int), .int .u32 (a : Int)]
set_option maxRecDepth 100000 in
set_option maxHeartbeats 3200000 in
theorem put33_w (base : Nat) (v : Value) (l : List UInt8) (p q : Int) (n a : Nat) (w : World) (ho : OB w base 5 v l) (hp : Sp.i64 p) (hq : Sp.i64 q) (hn : n < 2 ^ 64) (ha : a < 2 ^ 32) (hl : l.length ≤ 890000) (hb : base ≤ w.heap.size) :
    Calls Try.prog 33 #[v, .agg #[.int .i64 p, .int .i64 q, .int .u64 (n : Int), .int .u32 (a : Int)]] w (PutP base w (l ++ (((Form.nat (Form.fold p) ++ Form.nat (Form.fold q)) ++ Form.nat n) ++ Form.nat a))) := by
  have HX := Lib.hid (heap_alloc_new w (.cells (trC p q n a) 62))
  have Hc := Lib.hid (fun (W : World) (h : (w.alloc (.cells (trC p q n a) 62)).drew.grownBy W v.ownBlock) (i : Nat) => (show W.cell? ⟨w.heap.size, i, none⟩ = (trC p q n a)[i]? from
    cell_of_row _ _ _ _ _ _ ((h.block w.heap.size (by show w.heap.size < (w.alloc _).heap.size; simp) (fun e => by have := (ho.lt _ e.symm).2; omega)).trans (heap_alloc_new w (.cells (trC p q n a) 62)))))
  have HG0 := Lib.hid (World.grownBy.refl (w.alloc (.cells (trC p q n a) 62)).drew v.ownBlock)
  have HN0 := Lib.hid (Near.refl (w.alloc (.cells (trC p q n a) 62)).drew v)
  have HO := Lib.hid (show OB (w.alloc (.cells (trC p q n a) 62)).drew base 5 v l from (ho.alloc _).keeps (Keeps.refl _).drew)
  have Hend := Lib.hid (fun (W : World) (h : (w.alloc (.cells (trC p q n a) 62)).drew.grownBy W v.ownBlock) => (show Below base w W from (((Below.refl base w).alloc hb (.cells (trC p q n a) 62)).drew).grown h (by show base ≤ (w.alloc _).heap.size; simp; omega) (fun k e => (ho.lt k e).1)))
  have hs0 : base ≤ (w.alloc (.cells (trC p q n a) 62)).drew.heap.size := by show base ≤ (w.alloc _).heap.size; simp; omega
  have Hs0 := Lib.hid hs0
  have Hp := Lib.hid hp
  have Hq := Lib.hid hq
  have hl1 : (l ++ (Form.nat (Form.fold p) ++ Form.nat (Form.fold q))).length ≤ 900000 := by
    have h1 := Form.nat_len10 (Form.fold_lt hp.1 hp.2)
    have h2 := Form.nat_len10 (Form.fold_lt hq.1 hq.2)
    simp only [List.length_append]; omega
  have hl2 : ((l ++ (Form.nat (Form.fold p) ++ Form.nat (Form.fold q))) ++ Form.nat n).length ≤ 1000000 := by
    have h3 := Form.nat_len10 hn
    rw [List.length_append]; omega
  have Hl1 := Lib.hid hl1
  have Hl2 := Lib.hid hl2
  have hwa : IntKind.u64.wrap (a : Int) = (a : Int) := IntWalk.u64_in _ (by omega)
  obtain ⟨p0, c0, rfl⟩ := ho.form
  have e0 := Hc.out _ HG0.out 0
  have e1 := Hc.out _ HG0.out 1
  have e2 := Hc.out _ HG0.out 2
  have e3 := Hc.out _ HG0.out 3
  have f0 := e0.trans (show _ = some (Value.int .i64 p) from rfl)
  have f1 := e1.trans (show _ = some (Value.int .i64 q) from rfl)
  have f2 := e2.trans (show _ = some (Value.int .u64 (n : Int)) from rfl)
  have f3 := e3.trans (show _ = some (Value.int .u32 (a : Int)) from rfl)
  obtain ⟨W0, hW0⟩ : ∃ W0, w.alloc (.cells (trC p q n a) 62) = W0 := ⟨_, rfl⟩
  have HW0 := Lib.hid (show w.alloc (.cells #[.int .i64 p, .int .i64 q, .int .u64 (n : Int), .int .u32 (a : Int)] 62) = W0 from hW0)
  rw [hW0] at Hc HG0 HN0 HO Hend Hs0 f0 f1 f2 f3
  clear ho hp hq hl1 hl2 hs0 HX hW0 e0 e1 e2 e3
  go_enter Try.func33, Try.ntmps33
  go_upto_region 1 with fail
  rw [HW0.out]
  go_region_held3 (fun w' => w'.cell? ⟨w.heap.size, 0, none⟩ = some (.int .i64 p) ∧ w'.cell? ⟨w.heap.size, 1, none⟩ = some (.int .i64 q) ∧ w'.cell? ⟨w.heap.size, 2, none⟩ = some (.int .u64 (n : Int)) ∧ w'.cell? ⟨w.heap.size, 3, none⟩ = some (.int .u32 (a : Int))) (go_keep) (first
    | (go_at_call 31; (with_reducible refine (order_w base _ l p q _ HO.out Hp.out Hq.out (by omega) Hs0.out).mono ?_); rintro e R1 ⟨r1, k1, s1, rfl, hk, ho, hg, hr⟩; have K1 := Lib.hid hk; have O1 := Lib.hid ho; have G1 := Lib.hid (grown_near HG0.out hg HN0.out); have N1 := Lib.hid (HN0.out.trans hr HG0.out.size); have S1 := Lib.hid (Nat.le_trans Hs0.out G1.out.size); have g0 := (Hc.out _ G1.out 0).trans (show _ = some (Value.int .i64 p) from rfl); have g1 := (Hc.out _ G1.out 1).trans (show _ = some (Value.int .i64 q) from rfl); have g2 := (Hc.out _ G1.out 2).trans (show _ = some (Value.int .u64 (n : Int)) from rfl); have g3 := (Hc.out _ G1.out 3).trans (show _ = some (Value.int .u32 (a : Int)) from rfl); clear hk ho hg hr)
    | (go_at_call 25
       first
         | (with_reducible refine (nat2_w base _ (l ++ (Form.nat (Form.fold p) ++ Form.nat (Form.fold q))) n _ O1.out hn (Nat.le_trans Hl1.out (by decide)) S1.out).mono ?_; rintro e R2 ⟨r2, k2, s2, rfl, hk, ho, hg, hr⟩; have K2 := Lib.hid hk; have O2 := Lib.hid ho; have G2 := Lib.hid (grown_near G1.out hg N1.out); have N2 := Lib.hid (N1.out.trans hr G1.out.size); have S2 := Lib.hid (Nat.le_trans Hs0.out G2.out.size); have g0 := (Hc.out _ G2.out 0).trans (show _ = some (Value.int .i64 p) from rfl); have g1 := (Hc.out _ G2.out 1).trans (show _ = some (Value.int .i64 q) from rfl); have g2 := (Hc.out _ G2.out 2).trans (show _ = some (Value.int .u64 (n : Int)) from rfl); have g3 := (Hc.out _ G2.out 3).trans (show _ = some (Value.int .u32 (a : Int)) from rfl); clear hk ho hg hr)
         | (with_reducible refine (nat2_w base _ ((l ++ (Form.nat (Form.fold p) ++ Form.nat (Form.fold q))) ++ Form.nat n) a _ O2.out (by omega) Hl2.out S2.out).mono ?_; rintro e R3 ⟨r3, k3, s3, rfl, hk, ho, hg, hr⟩; have K3 := Lib.hid hk; have O3 := Lib.hid ho; have G3 := Lib.hid (grown_near G2.out hg N2.out); have g0 := (Hc.out _ G3.out 0).trans (show _ = some (Value.int .i64 p) from rfl); have g1 := (Hc.out _ G3.out 1).trans (show _ = some (Value.int .i64 q) from rfl); have g2 := (Hc.out _ G3.out 2).trans (show _ = some (Value.int .u64 (n : Int)) from rfl); have g3 := (Hc.out _ G3.out 3).trans (show _ = some (Value.int .u32 (a : Int)) from rfl); clear hk ho hg hr)))
  go_wp2
  go_ret
  exact ⟨r3, k3, s3, rfl, by rw [← List.append_assoc, ← List.append_assoc l]; exact K3.out, by rw [← List.append_assoc, ← List.append_assoc l]; exact O3.out, Hend.out _ G3.out⟩
set_option maxRecDepth 100000 in
set_option maxHeartbeats 3200000 in
theorem list32_w (w0 : World) (v gv : Value) (l : List UInt8) (ts : List Tr) (w : World) (ho : OB w w0.heap.size 5 v l) (hg : RdT w0 gv ts) (hB : Below w0.heap.size w0 w) (hn : ∀ t ∈ ts, t.ok) (hlen : ts.length ≤ 5000) (hl : l.length ≤ 600000) :
    Calls Try.prog 32 #[v, gv, .func (Fn.func 33) #[] #[]] w (PutP w0.heap.size w (l ++ natsT ts)) := by
  have HG := Lib.hid hg
  have HN := Lib.hid hn
  have HL10 := Lib.hid (Form.nat_len10 (n := ts.length) (by omega))
  obtain ⟨p0, c0, rfl⟩ := ho.form
  obtain ⟨pg, cg, rfl, _⟩ := hg
  have HP := Lib.hid (put25_w w0.heap.size _ l ts.length w ho (by omega) (by omega) hB.size)
  have hwl : IntKind.u64.wrap (ts.length : Int) = (ts.length : Int) := IntWalk.u64_in _ (by omega)
  have HB := Lib.hid hB
  clear ho hn hB
  go_enter Try.func32, Try.ntmps32
  go_wp2_with (go_at_call 25; (with_reducible refine (HP.out).mono ?_); rintro e W1 ⟨p1, k1, c1, rfl, hk, ho, hB⟩; have HK := Lib.hid hk; have HO := Lib.hid ho; have HB1 := Lib.hid hB; clear hk ho hB)
  go_loopw [0, 16] (fun bv ix wr => ∃ (q : Nat) (p : Option Addr) (k c : Nat), q ≤ ts.length ∧ bv = .slice p k c ∧ ix = .int .i64 (q : Int) ∧ Hid (k = (l ++ (Form.nat ts.length ++ (ts.take q).flatMap Tr.form)).length) ∧ Hid (OB wr w0.heap.size 5 (.slice p k c) (l ++ (Form.nat ts.length ++ (ts.take q).flatMap Tr.form))) ∧ Hid (Below w0.heap.size w wr)) (fun _ ix _ => ts.length - (intOf ix).toNat)
  case atStart => exact ⟨0, p1, k1, c1, Nat.zero_le _, rfl, rfl, by simpa using HK, by simpa using HO, HB1⟩
  case round =>
    obtain ⟨q, p, k, c, hq, rfl, rfl, HKq, HOq, HBq⟩ := hrel
    by_cases hlt : q < ts.length
    · obtain ⟨b, off, rfl, hc⟩ := HG.out.at q hlt
      have hlq : (l ++ (Form.nat ts.length ++ (ts.take q).flatMap Tr.form)).length ≤ 890000 := by
        have h1 := flatT_len (ts.take q) (fun n hn => HN.out n (List.mem_of_mem_take hn))
        have h2 := HL10.out
        simp only [List.length_append, List.length_take] at *; omega
      have Hst := Lib.hid (show l ++ (Form.nat ts.length ++ (ts.take q).flatMap Tr.form) ++ (((Form.nat (Form.fold ts[q].price) ++ Form.nat (Form.fold ts[q].qty)) ++ Form.nat ts[q].number) ++ Form.nat ts[q].account) = l ++ (Form.nat ts.length ++ (ts.take (q + 1)).flatMap Tr.form) by
        rw [List.take_succ_eq_append_getElem hlt, List.flatMap_append]; simp [List.append_assoc, Tr.form])
      have hok := HN.out _ (List.getElem_mem hlt)
      have hcell : ∀ j u, ts[q].cells[j]? = some u → wr.cell? ⟨b, off + q * 4 + j, none⟩ = some u := fun j u hu => ((HB.out.trans HBq.out).cell (p := ⟨b, off + q * 4 + j, none⟩) (block_lt_of_cell (hc j u hu))).trans (hc j u hu)
      obtain ⟨hp, hq', hn', ha'⟩ := hok
      have c0' : wr.cell? ⟨b, off + q * 4, none⟩ = some (.int .i64 ts[q].price) := hcell 0 _ rfl
      have Hra := Lib.hid (show wr.rangeAt b (off + q * 4) [.int .i64 ts[q].price, .int .i64 ts[q].qty, .int .u64 (ts[q].number : Int), .int .u32 (ts[q].account : Int)] from hcell)
      generalize ts[q].price = pr at *
      generalize ts[q].qty = qt at *
      generalize ts[q].number = nu at *
      generalize ts[q].account = ac at *
      have HPq := Lib.hid (fun (W : World) (h : OB W w0.heap.size 5 (.slice p k c) (l ++ (Form.nat ts.length ++ (ts.take q).flatMap Tr.form))) (hs : w0.heap.size ≤ W.heap.size) => put33_w w0.heap.size _ _ pr qt nu ac W h hp hq' hn' ha' hlq hs)
      rw [Hst.out] at HPq
      have HOa := Lib.hid (HOq.out.alloc (.cells #[.int .i64 pr, .int .i64 qt, .int .u64 (nu : Int), .int .u32 (ac : Int)] 62))
      have HBa := Lib.hid (HBq.out.alloc (HB.out.trans HBq.out).size (.cells #[.int .i64 pr, .int .i64 qt, .int .u64 (nu : Int), .int .u32 (ac : Int)] 62))
      have Hsa := Lib.hid (HB.out.trans HBa.out).size
      clear hc hlq hcell hp hq' hn' ha'
      go_wp2_with (first
        | (refine wpList_load_mid rfl 62 (.tmp 18) rfl _ _ rfl [.int .i64 pr, .int .i64 qt, .int .u64 (nu : Int), .int .u32 (ac : Int)] _ Hra.out Try.underlying62 rfl (show _ = some 4 by kernel_rfl) ?_)
        | (go_at_call 33; (with_reducible refine (HPq.out _ HOa.out Hsa.out).mono ?_); rintro e W2 ⟨p2, k2, c2, rfl, hk, ho, hB⟩; have HK2 := Lib.hid hk; have HO2 := Lib.hid ho; have HB2 := Lib.hid (HBa.out.trans hB); clear hk ho hB))
      go_roundw
      case rel => exact ⟨q + 1, p2, k2, c2, by omega, rfl, by go_num, HK2, HO2, HB2⟩
      case measure => simp [intOf]; omega
    · have hq2 : q = ts.length := by omega
      subst hq2
      rw [List.take_length] at HKq HOq
      go_wp2
      go_ret
      exact ⟨p, k, c, rfl, HKq.out, HOq.out, HBq.out⟩
end Go.Proofs.Ytoflehlkacofjaa
