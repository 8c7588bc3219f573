/- A reply: its data in memory, its form; lists put behind bytes. -/
import Derived.Test.YtoflehlkacofjaaQcA6
import Derived.Deep.RegionHeld3
namespace Go.Proofs.Ytoflehlkacofjaa
open Go.ChangeShapes Go.WideShapes Go.ChangeAt Go.RowKit
set_option linter.unusedVariables false
/-- A trade that is told. -/
structure Tr where
  price : Int
  qty : Int
  number : Nat
  account : Nat
structure Tr.ok (t : Tr) : Prop where
  price : Sp.i64 t.price
  qty : Sp.i64 t.qty
  number : t.number < 2 ^ 64
  account : t.account < 2 ^ 32
def Tr.cells (t : Tr) : List Value := [.int .i64 t.price, .int .i64 t.qty, .int .u64 (t.number : Int), .int .u32 (t.account : Int)]
def Tr.form (t : Tr) : List UInt8 := (Form.nat (Form.fold t.price) ++ Form.nat (Form.fold t.qty)) ++ Form.nat t.number ++ Form.nat t.account
/-- The value is a row of n elements, c cells each: these. -/
def RdC (w : World) (v : Value) (c n : Nat) (vs : List Value) : Prop := ∃ p cap, v = .slice p n cap ∧ n ≤ cap ∧ cap ≤ maxLen ∧ vs.length = n * c ∧ (n ≠ 0 → ∃ b off, p = some ⟨b, off, none⟩ ∧ ∀ i u, vs[i]? = some u → w.cell? ⟨b, off + i, none⟩ = some u)
theorem RdC.keeps {w w' : World} {v : Value} {c n : Nat} {vs : List Value} (h : RdC w v c n vs) (hk : Keeps w w') : RdC w' v c n vs := by
  obtain ⟨p, cap, rfl, h1, h2, h3, h4⟩ := h
  refine ⟨p, cap, rfl, h1, h2, h3, fun hn => ?_⟩
  obtain ⟨b, off, e, hc⟩ := h4 hn
  exact ⟨b, off, e, fun i u hu => hk.cell (hc i u hu)⟩
theorem RdC.nil (w : World) (c : Nat) : RdC w (.slice none 0 0) c 0 [] := ⟨none, 0, rfl, Nat.le_refl _, by unfold maxLen; omega, by simp, fun h => absurd rfl h⟩
/-- Numbers, one a cell. -/
def RdN (w : World) (v : Value) (k : IntKind) (ns : List Nat) : Prop := RdC w v 1 ns.length (ns.map fun (n : Nat) => .int k (n : Int))
theorem RdN.at {w : World} {p : Option Addr} {m cap : Nat} {k : IntKind} {ns : List Nat} (h : RdN w (.slice p m cap) k ns) (i : Nat) (hi : i < ns.length) : ∃ b off, p = some ⟨b, off, none⟩ ∧ w.cell? ⟨b, off + i, none⟩ = some (.int k (ns[i] : Int)) := by
  obtain ⟨p', cap', e, h1, h2, h3, h4⟩ := h
  cases e
  obtain ⟨b, off, e, hc⟩ := h4 (by omega)
  exact ⟨b, off, e, hc i _ (by rw [List.getElem?_map, List.getElem?_eq_getElem hi]; rfl)⟩
/-- Trades, four cells each. -/
def RdT (w : World) (v : Value) (ts : List Tr) : Prop := RdC w v 4 ts.length (ts.flatMap Tr.cells)
theorem tr_cell (ts : List Tr) (i j : Nat) (hi : i < ts.length) (hj : j < 4) : (ts.flatMap Tr.cells)[i * 4 + j]? = ts[i].cells[j]? := by
  induction ts generalizing i with
  | nil => simp at hi
  | cons t ts ih =>
    rw [List.flatMap_cons]
    have hl : t.cells.length = 4 := rfl
    cases i with
    | zero => rw [List.getElem?_append_left (by omega)]; simp
    | succ i =>
      rw [List.getElem?_append_right (by omega), hl, show (i + 1) * 4 + j - 4 = i * 4 + j by omega]
      simpa using ih i (by simpa using hi)
theorem RdT.at {w : World} {p : Option Addr} {m cap : Nat} {ts : List Tr} (h : RdT w (.slice p m cap) ts) (i : Nat) (hi : i < ts.length) : ∃ b off, p = some ⟨b, off, none⟩ ∧ w.rangeAt b (off + i * 4) ts[i].cells := by
  obtain ⟨p', cap', e, h1, h2, h3, h4⟩ := h
  cases e
  obtain ⟨b, off, e, hc⟩ := h4 (by omega)
  refine ⟨b, off, e, fun j u hu => ?_⟩
  have hj : j < 4 := (List.getElem?_eq_some_iff.1 hu).1
  have := hc (i * 4 + j) u (by rw [tr_cell ts i j hi hj]; exact hu)
  rwa [← Nat.add_assoc] at this
def natsN (ns : List Nat) : List UInt8 := Form.nat ns.length ++ ns.flatMap Form.nat
def natsT (ts : List Tr) : List UInt8 := Form.nat ts.length ++ ts.flatMap Tr.form
theorem flatN_len (ns : List Nat) (h : ∀ n ∈ ns, n < 2 ^ 64) : (ns.flatMap Form.nat).length ≤ ns.length * 10 := by
  induction ns with
  | nil => simp
  | cons n ns ih =>
    have h1 := Form.nat_len10 (h n (by simp))
    have h2 := ih fun m hm => h m (by simp [hm])
    rw [List.flatMap_cons, List.length_append, List.length_cons]; omega
theorem Tr.form_len {t : Tr} (h : t.ok) : t.form.length ≤ 40 := by
  have h1 := Form.nat_len10 (Form.fold_lt h.price.1 h.price.2)
  have h2 := Form.nat_len10 (Form.fold_lt h.qty.1 h.qty.2)
  have h3 := Form.nat_len10 h.number
  have h4 := Form.nat_len10 (Nat.lt_trans h.account (by decide))
  unfold Tr.form
  simp only [List.length_append]; omega
theorem flatT_len (ts : List Tr) (h : ∀ t ∈ ts, t.ok) : (ts.flatMap Tr.form).length ≤ ts.length * 40 := by
  induction ts with
  | nil => simp
  | cons n ns ih =>
    have h1 := Tr.form_len (h n (by simp))
    have h2 := ih fun m hm => h m (by simp [hm])
    rw [List.flatMap_cons, List.length_append, List.length_cons]; omega
/-- What a call that puts behind bytes leaves. -/
def PutP (B : Nat) (w : World) (F : List UInt8) (e : Ending) (w' : World) : Prop := ∃ p k c, e = .returned (.slice p k c) ∧ k = F.length ∧ OB w' B 5 (.slice p k c) F ∧ Below B w w'
set_option maxRecDepth 100000 in
theorem put36_w (base : Nat) (v : Value) (l : List UInt8) (n : Nat) (w : World) (ho : OB w base 5 v l) (hn : n < 2 ^ 32) (hl : l.length ≤ 1000000) (hb : base ≤ w.heap.size) :
    Calls Try.prog 36 #[v, .int .u32 (n : Int)] w (PutP base w (l ++ Form.nat n)) := by
  have H := Lib.hid (nat_w base v l n w ho (by omega) hl hb)
  obtain ⟨p0, c0, rfl⟩ := ho.form
  have hw : IntKind.u64.wrap (n : Int) = (n : Int) := IntWalk.u64_in _ (by omega)
  clear ho
  go_enter Try.func36, Try.ntmps36
  go_wp2_with (go_at_call 25; (with_reducible refine (H.out).mono ?_); rintro e W1 ⟨p, k, c, rfl, hk, ho, hB⟩; have HK := Lib.hid hk; have HO := Lib.hid ho; have HB := Lib.hid hB; clear hk ho hB)
  go_ret
  exact ⟨p, k, c, rfl, HK.out, HO.out, HB.out⟩
theorem put25_w (base : Nat) (v : Value) (l : List UInt8) (n : Nat) (w : World) (ho : OB w base 5 v l) (hn : n < 2 ^ 64) (hl : l.length ≤ 1000000) (hb : base ≤ w.heap.size) :
    Calls Try.prog 25 #[v, .int .u64 (n : Int)] w (PutP base w (l ++ Form.nat n)) := (nat_w base v l n w ho hn hl hb).mono fun e w' ⟨p, k, c, h1, h2, h3, h4⟩ => ⟨p, k, c, h1, h2, h3, h4⟩
set_option maxRecDepth 100000 in
set_option maxHeartbeats 3200000 in
theorem list34_w (w0 : World) (v gv : Value) (l : List UInt8) (ns : List Nat) (w : World) (ho : OB w w0.heap.size 5 v l) (hg : RdN w0 gv .u64 ns) (hB : Below w0.heap.size w0 w) (hn : ∀ n ∈ ns, n < 2 ^ 64) (hlen : ns.length ≤ 5000) (hl : l.length ≤ 800000) :
    Calls Try.prog 34 #[v, gv, .func (Fn.func 25) #[] #[]] w (PutP w0.heap.size w (l ++ natsN ns)) := by
  have HG := Lib.hid hg
  have HN := Lib.hid hn
  have HF := Lib.hid (flatN_len ns hn)
  have HL10 := Lib.hid (Form.nat_len10 (n := ns.length) (by omega))
  obtain ⟨p0, c0, rfl⟩ := ho.form
  obtain ⟨pg, cg, rfl, _⟩ := hg
  have HP := Lib.hid (put25_w w0.heap.size _ l ns.length w ho (by omega) (by omega) hB.size)
  have hwl : IntKind.u64.wrap (ns.length : Int) = (ns.length : Int) := IntWalk.u64_in _ (by omega)
  have HB := Lib.hid hB
  clear ho hn hB
  go_enter Try.func34, Try.ntmps34
  go_wp2_with (go_at_call 25; (with_reducible refine (HP.out).mono ?_); rintro e W1 ⟨p1, k1, c1, rfl, hk, ho, hB⟩; have HK := Lib.hid hk; have HO := Lib.hid ho; have HB1 := Lib.hid hB; clear hk ho hB)
  go_loopw [0, 16] (fun bv ix wr => ∃ (q : Nat) (p : Option Addr) (k c : Nat), q ≤ ns.length ∧ bv = .slice p k c ∧ ix = .int .i64 (q : Int) ∧ Hid (k = (l ++ (Form.nat ns.length ++ (ns.take q).flatMap Form.nat)).length) ∧ Hid (OB wr w0.heap.size 5 (.slice p k c) (l ++ (Form.nat ns.length ++ (ns.take q).flatMap Form.nat))) ∧ Hid (Below w0.heap.size w wr)) (fun _ ix _ => ns.length - (intOf ix).toNat)
  case atStart => exact ⟨0, p1, k1, c1, Nat.zero_le _, rfl, rfl, by simpa using HK, by simpa using HO, HB1⟩
  case round =>
    obtain ⟨q, p, k, c, hq, rfl, rfl, HKq, HOq, HBq⟩ := hrel
    by_cases hlt : q < ns.length
    · obtain ⟨b, off, rfl, hc⟩ := HG.out.at q hlt
      have hc1 : wr.cell? ⟨b, off + q, none⟩ = some (.int .u64 (ns[q] : Int)) := ((HB.out.trans HBq.out).cell (block_lt_of_cell hc)).trans hc
      have hlq : (l ++ (Form.nat ns.length ++ (ns.take q).flatMap Form.nat)).length ≤ 1000000 := by
        have h1 := flatN_len (ns.take q) (fun n hn => HN.out n (List.mem_of_mem_take hn))
        have h2 := HL10.out
        simp only [List.length_append, List.length_take] at *; omega
      have HPq := Lib.hid (put25_w w0.heap.size _ _ ns[q] wr HOq.out (HN.out _ (List.getElem_mem _)) hlq (HB.out.trans HBq.out).size)
      have Hst := Lib.hid (show l ++ (Form.nat ns.length ++ (ns.take q).flatMap Form.nat) ++ Form.nat ns[q] = l ++ (Form.nat ns.length ++ (ns.take (q + 1)).flatMap Form.nat) by
        rw [List.take_succ_eq_append_getElem hlt, List.flatMap_append]; simp [List.append_assoc])
      rw [Hst.out] at HPq
      clear hc hlq
      generalize ns[q] = x at *
      go_wp2_with (go_at_call 25; (with_reducible refine (HPq.out).mono ?_); rintro e W2 ⟨p2, k2, c2, rfl, hk, ho, hB⟩; have HK2 := Lib.hid hk; have HO2 := Lib.hid ho; have HB2 := Lib.hid (HBq.out.trans hB); clear hk ho hB)
      go_roundw
      case rel => exact ⟨q + 1, p2, k2, c2, by omega, rfl, by go_num, HK2, HO2, HB2⟩
      case measure => simp [intOf]; omega
    · have hq2 : q = ns.length := by omega
      subst hq2
      rw [List.take_length] at HKq HOq
      go_wp2
      go_ret
      exact ⟨p, k, c, rfl, HKq.out, HOq.out, HBq.out⟩
set_option maxRecDepth 100000 in
set_option maxHeartbeats 3200000 in
theorem list35_w (w0 : World) (v gv : Value) (l : List UInt8) (ns : List Nat) (w : World) (ho : OB w w0.heap.size 5 v l) (hg : RdN w0 gv .u32 ns) (hB : Below w0.heap.size w0 w) (hn : ∀ n ∈ ns, n < 2 ^ 32) (hlen : ns.length ≤ 5000) (hl : l.length ≤ 800000) :
    Calls Try.prog 35 #[v, gv, .func (Fn.func 36) #[] #[]] w (PutP w0.heap.size w (l ++ natsN ns)) := by
  have HG := Lib.hid hg
  have HN := Lib.hid hn
  have HF := Lib.hid (flatN_len ns (fun n h => Nat.lt_trans (hn n h) (by decide)))
  have HL10 := Lib.hid (Form.nat_len10 (n := ns.length) (by omega))
  obtain ⟨p0, c0, rfl⟩ := ho.form
  obtain ⟨pg, cg, rfl, _⟩ := hg
  have HP := Lib.hid (put25_w w0.heap.size _ l ns.length w ho (by omega) (by omega) hB.size)
  have hwl : IntKind.u64.wrap (ns.length : Int) = (ns.length : Int) := IntWalk.u64_in _ (by omega)
  have HB := Lib.hid hB
  clear ho hn hB
  go_enter Try.func35, Try.ntmps35
  go_wp2_with (go_at_call 25; (with_reducible refine (HP.out).mono ?_); rintro e W1 ⟨p1, k1, c1, rfl, hk, ho, hB⟩; have HK := Lib.hid hk; have HO := Lib.hid ho; have HB1 := Lib.hid hB; clear hk ho hB)
  go_loopw [0, 16] (fun bv ix wr => ∃ (q : Nat) (p : Option Addr) (k c : Nat), q ≤ ns.length ∧ bv = .slice p k c ∧ ix = .int .i64 (q : Int) ∧ Hid (k = (l ++ (Form.nat ns.length ++ (ns.take q).flatMap Form.nat)).length) ∧ Hid (OB wr w0.heap.size 5 (.slice p k c) (l ++ (Form.nat ns.length ++ (ns.take q).flatMap Form.nat))) ∧ Hid (Below w0.heap.size w wr)) (fun _ ix _ => ns.length - (intOf ix).toNat)
  case atStart => exact ⟨0, p1, k1, c1, Nat.zero_le _, rfl, rfl, by simpa using HK, by simpa using HO, HB1⟩
  case round =>
    obtain ⟨q, p, k, c, hq, rfl, rfl, HKq, HOq, HBq⟩ := hrel
    by_cases hlt : q < ns.length
    · obtain ⟨b, off, rfl, hc⟩ := HG.out.at q hlt
      have hc1 : wr.cell? ⟨b, off + q, none⟩ = some (.int .u32 (ns[q] : Int)) := ((HB.out.trans HBq.out).cell (block_lt_of_cell hc)).trans hc
      have hlq : (l ++ (Form.nat ns.length ++ (ns.take q).flatMap Form.nat)).length ≤ 1000000 := by
        have h1 := flatN_len (ns.take q) (fun n hn => Nat.lt_trans (HN.out n (List.mem_of_mem_take hn)) (by decide))
        have h2 := HL10.out
        simp only [List.length_append, List.length_take] at *; omega
      have HPq := Lib.hid (put36_w w0.heap.size _ _ ns[q] wr HOq.out (HN.out _ (List.getElem_mem _)) hlq (HB.out.trans HBq.out).size)
      have Hst := Lib.hid (show l ++ (Form.nat ns.length ++ (ns.take q).flatMap Form.nat) ++ Form.nat ns[q] = l ++ (Form.nat ns.length ++ (ns.take (q + 1)).flatMap Form.nat) by
        rw [List.take_succ_eq_append_getElem hlt, List.flatMap_append]; simp [List.append_assoc])
      rw [Hst.out] at HPq
      clear hc hlq
      generalize ns[q] = x at *
      go_wp2_with (go_at_call 36; (with_reducible refine (HPq.out).mono ?_); rintro e W2 ⟨p2, k2, c2, rfl, hk, ho, hB⟩; have HK2 := Lib.hid hk; have HO2 := Lib.hid ho; have HB2 := Lib.hid (HBq.out.trans hB); clear hk ho hB)
      go_roundw
      case rel => exact ⟨q + 1, p2, k2, c2, by omega, rfl, by go_num, HK2, HO2, HB2⟩
      case measure => simp [intOf]; omega
    · have hq2 : q = ns.length := by omega
      subst hq2
      rw [List.take_length] at HKq HOq
      go_wp2
      go_ret
      exact ⟨p, k, c, rfl, HKq.out, HOq.out, HBq.out⟩
end Go.Proofs.Ytoflehlkacofjaa
