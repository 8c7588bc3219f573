/- K4: A6, A7, A8. -/
import Derived.Test.YtoflehlkacofjaaQfA5
import Derived.Deep.RegionHeld3
/- A command's form; words.Command, whole. -/
namespace Go.Proofs.Ytoflehlkacofjaa
open Go.ChangeShapes Go.WideShapes Go.ChangeAt Go.RowKit
set_option linter.unusedVariables false
/-- The letters of a kind's fields, in their order. -/
def flds (k : Nat) : List UInt8 := if k = 1 ∨ k = 2 then [97, 109] else if k = 3 then [115] else if k = 4 then [99, 111] else if k = 5 then [97, 99, 98, 107, 112, 113] else if k = 6 then [97, 110] else if k = 7 then [97, 110, 112, 113] else if k = 8 then [97, 99]
  else if k = 9 then [97, 99, 98, 112, 113] else if k = 10 then [97, 111] else if k = 11 then [99, 112] else if k = 13 then [97] else if k = 14 then [99] else []
namespace Cm
/-- What a letter's field is written as. -/
def piece (x : Cm) (c : UInt8) : List UInt8 := if c = 97 then Form.nat x.account else if c = 99 then Form.nat x.contract else if c = 110 then Form.nat x.number else if c = 109 then Form.nat (Form.fold x.amount) else if c = 115 then x.spec.form
  else if c = 111 then Form.flag x.on else if c = 98 then Form.flag x.buy else if c = 107 then Form.nat x.as_ else if c = 112 then Form.nat (Form.fold x.price) else if c = 113 then Form.nat (Form.fold x.qty) else []
def form (x : Cm) : List UInt8 := Form.nat x.kind ++ (flds x.kind).flatMap x.piece
end Cm
theorem form_1 (a n u : Nat) (m : Int) (s : Sp) (o b : Bool) (z : Nat) (p q : Int) : (Cm.mk 1 a n u m s o b z p q).form = ((Form.nat 1 ++ Form.nat a) ++ Form.nat (Form.fold m)) := by
  simp [Cm.form, flds, Cm.piece]
theorem form_2 (a n u : Nat) (m : Int) (s : Sp) (o b : Bool) (z : Nat) (p q : Int) : (Cm.mk 2 a n u m s o b z p q).form = ((Form.nat 2 ++ Form.nat a) ++ Form.nat (Form.fold m)) := by
  simp [Cm.form, flds, Cm.piece]
theorem form_3 (a n u : Nat) (m : Int) (s : Sp) (o b : Bool) (z : Nat) (p q : Int) : (Cm.mk 3 a n u m s o b z p q).form = (Form.nat 3 ++ s.form) := by
  simp [Cm.form, flds, Cm.piece]
theorem form_4 (a n u : Nat) (m : Int) (s : Sp) (o b : Bool) (z : Nat) (p q : Int) : (Cm.mk 4 a n u m s o b z p q).form = ((Form.nat 4 ++ Form.nat n) ++ Form.flag o) := by
  simp [Cm.form, flds, Cm.piece]
theorem form_5 (a n u : Nat) (m : Int) (s : Sp) (o b : Bool) (z : Nat) (p q : Int) : (Cm.mk 5 a n u m s o b z p q).form = (((((Form.nat 5 ++ Form.nat a) ++ Form.nat n) ++ Form.flag b) ++ Form.nat z) ++ (Form.nat (Form.fold p) ++ Form.nat (Form.fold q))) := by
  simp [Cm.form, flds, Cm.piece]
theorem form_6 (a n u : Nat) (m : Int) (s : Sp) (o b : Bool) (z : Nat) (p q : Int) : (Cm.mk 6 a n u m s o b z p q).form = ((Form.nat 6 ++ Form.nat a) ++ Form.nat u) := by
  simp [Cm.form, flds, Cm.piece]
theorem form_7 (a n u : Nat) (m : Int) (s : Sp) (o b : Bool) (z : Nat) (p q : Int) : (Cm.mk 7 a n u m s o b z p q).form = (((Form.nat 7 ++ Form.nat a) ++ Form.nat u) ++ (Form.nat (Form.fold p) ++ Form.nat (Form.fold q))) := by
  simp [Cm.form, flds, Cm.piece]
theorem form_8 (a n u : Nat) (m : Int) (s : Sp) (o b : Bool) (z : Nat) (p q : Int) : (Cm.mk 8 a n u m s o b z p q).form = ((Form.nat 8 ++ Form.nat a) ++ Form.nat n) := by
  simp [Cm.form, flds, Cm.piece]
theorem form_9 (a n u : Nat) (m : Int) (s : Sp) (o b : Bool) (z : Nat) (p q : Int) : (Cm.mk 9 a n u m s o b z p q).form = ((((Form.nat 9 ++ Form.nat a) ++ Form.nat n) ++ Form.flag b) ++ (Form.nat (Form.fold p) ++ Form.nat (Form.fold q))) := by
  simp [Cm.form, flds, Cm.piece]
theorem form_10 (a n u : Nat) (m : Int) (s : Sp) (o b : Bool) (z : Nat) (p q : Int) : (Cm.mk 10 a n u m s o b z p q).form = ((Form.nat 10 ++ Form.nat a) ++ Form.flag o) := by
  simp [Cm.form, flds, Cm.piece]
theorem form_11 (a n u : Nat) (m : Int) (s : Sp) (o b : Bool) (z : Nat) (p q : Int) : (Cm.mk 11 a n u m s o b z p q).form = ((Form.nat 11 ++ Form.nat n) ++ Form.nat (Form.fold p)) := by
  simp [Cm.form, flds, Cm.piece]
theorem form_12 (a n u : Nat) (m : Int) (s : Sp) (o b : Bool) (z : Nat) (p q : Int) : (Cm.mk 12 a n u m s o b z p q).form = Form.nat 12 := by
  simp [Cm.form, flds]
theorem form_13 (a n u : Nat) (m : Int) (s : Sp) (o b : Bool) (z : Nat) (p q : Int) : (Cm.mk 13 a n u m s o b z p q).form = (Form.nat 13 ++ Form.nat a) := by
  simp [Cm.form, flds, Cm.piece]
theorem form_14 (a n u : Nat) (m : Int) (s : Sp) (o b : Bool) (z : Nat) (p q : Int) : (Cm.mk 14 a n u m s o b z p q).form = (Form.nat 14 ++ Form.nat n) := by
  simp [Cm.form, flds, Cm.piece]
theorem Cm.may_open {x : Cm} (h : x.mayB = true) : 1 ≤ x.kind ∧ x.kind ≤ 14 ∧ x.same x.bare = true ∧ (x.kind = 3 → x.spec.mayB = true) := by
  unfold Cm.mayB at h
  simp only [Bool.and_eq_true, decide_eq_true_eq, Bool.or_eq_true] at h
  exact ⟨h.1, h.2.1, h.2.2.1, fun e => h.2.2.2.resolve_left fun n => n e⟩
theorem cmd_yes_w (x : Cm) (w : World) (hok : x.ok) (hm : x.mayB = true) : Calls Try.prog 10 #[.agg x.cells] w (CmdY w x.form) := by
  have hM : ∀ W, Calls Try.prog 19 #[.agg x.cells] W fun e w' => e = .returned (.bool true) ∧ Below W.heap.size W w' := fun W => by have h := may19_w x hok W; rw [hm] at h; exact h
  obtain ⟨h1, h2, _, h3⟩ := Cm.may_open hm
  obtain ⟨k, a, n, u, m, s, o, b, z, p, q⟩ := x
  obtain ⟨hk, ha, hn, hu, hm', hs, hz, hp, hq⟩ := hok
  dsimp only at *
  have hw : k = 1 ∨ k = 2 ∨ k = 3 ∨ k = 4 ∨ k = 5 ∨ k = 6 ∨ k = 7 ∨ k = 8 ∨ k = 9 ∨ k = 10 ∨ k = 11 ∨ k = 12 ∨ k = 13 ∨ k = 14 := by omega
  rcases hw with rfl | rfl | rfl | rfl | rfl | rfl | rfl | rfl | rfl | rfl | rfl | rfl | rfl | rfl
  · rw [form_1]; exact cmd_1_w a n u m s o b z p q w _ rfl ha hn hu hm' hs hz hp hq hM
  · rw [form_2]; exact cmd_2_w a n u m s o b z p q w _ rfl ha hn hu hm' hs hz hp hq hM
  · rw [form_3]; exact cmd_3_w a n u m s o b z p q w _ rfl ha hn hu hm' hs hz hp hq (h3 rfl) hM
  · rw [form_4]; exact cmd_4_w a n u m s o b z p q w _ rfl ha hn hu hm' hs hz hp hq hM
  · rw [form_5]; exact cmd_5_w a n u m s o b z p q w _ rfl ha hn hu hm' hs hz hp hq hM
  · rw [form_6]; exact cmd_6_w a n u m s o b z p q w _ rfl ha hn hu hm' hs hz hp hq hM
  · rw [form_7]; exact cmd_7_w a n u m s o b z p q w _ rfl ha hn hu hm' hs hz hp hq hM
  · rw [form_8]; exact cmd_8_w a n u m s o b z p q w _ rfl ha hn hu hm' hs hz hp hq hM
  · rw [form_9]; exact cmd_9_w a n u m s o b z p q w _ rfl ha hn hu hm' hs hz hp hq hM
  · rw [form_10]; exact cmd_10_w a n u m s o b z p q w _ rfl ha hn hu hm' hs hz hp hq hM
  · rw [form_11]; exact cmd_11_w a n u m s o b z p q w _ rfl ha hn hu hm' hs hz hp hq hM
  · rw [form_12]; exact cmd_12_w a n u m s o b z p q w _ rfl ha hn hu hm' hs hz hp hq hM
  · rw [form_13]; exact cmd_13_w a n u m s o b z p q w _ rfl ha hn hu hm' hs hz hp hq hM
  · rw [form_14]; exact cmd_14_w a n u m s o b z p q w _ rfl ha hn hu hm' hs hz hp hq hM
/-- The bytes of a command, and the error. -/
def Cm.bytes (x : Cm) : List UInt8 := if x.mayB = true then x.form else []
end Go.Proofs.Ytoflehlkacofjaa
/- A reply: its data in memory, its form; lists put behind bytes. -/
namespace Go.Proofs.Ytoflehlkacofjaa
open Go.ChangeShapes Go.WideShapes Go.ChangeAt Go.RowKit
set_option linter.unusedVariables false
/-- A trade that is told. -/
structure Tr where
  price : Int
  qty : Int
  number : Nat
  account : Nat
structure Tr.ok (t : Tr) : Prop where
  price : Sp.i64 t.price
  qty : Sp.i64 t.qty
  number : t.number < 2 ^ 64
  account : t.account < 2 ^ 32
def Tr.cells (t : Tr) : List Value := [.int .i64 t.price, .int .i64 t.qty, .int .u64 (t.number : Int), .int .u32 (t.account : Int)]
def Tr.form (t : Tr) : List UInt8 := (Form.nat (Form.fold t.price) ++ Form.nat (Form.fold t.qty)) ++ Form.nat t.number ++ Form.nat t.account
/-- The value is a row of n elements, c cells each: these. -/
def RdC (w : World) (v : Value) (c n : Nat) (vs : List Value) : Prop := ∃ p cap, v = .slice p n cap ∧ n ≤ cap ∧ cap ≤ maxLen ∧ vs.length = n * c ∧ (n ≠ 0 → ∃ b off, p = some ⟨b, off, none⟩ ∧ ∀ i u, vs[i]? = some u → w.cell? ⟨b, off + i, none⟩ = some u)
theorem RdC.keeps {w w' : World} {v : Value} {c n : Nat} {vs : List Value} (h : RdC w v c n vs) (hk : Keeps w w') : RdC w' v c n vs := by
  obtain ⟨p, cap, rfl, h1, h2, h3, h4⟩ := h
  refine ⟨p, cap, rfl, h1, h2, h3, fun hn => ?_⟩
  obtain ⟨b, off, e, hc⟩ := h4 hn
  exact ⟨b, off, e, fun i u hu => hk.cell (hc i u hu)⟩
theorem RdC.nil (w : World) (c : Nat) : RdC w (.slice none 0 0) c 0 [] := ⟨none, 0, rfl, Nat.le_refl _, by unfold maxLen; omega, by simp, fun h => absurd rfl h⟩
/-- Numbers, one a cell. -/
def RdN (w : World) (v : Value) (k : IntKind) (ns : List Nat) : Prop := RdC w v 1 ns.length (ns.map fun (n : Nat) => .int k (n : Int))
theorem RdN.at {w : World} {p : Option Addr} {m cap : Nat} {k : IntKind} {ns : List Nat} (h : RdN w (.slice p m cap) k ns) (i : Nat) (hi : i < ns.length) : ∃ b off, p = some ⟨b, off, none⟩ ∧ w.cell? ⟨b, off + i, none⟩ = some (.int k (ns[i] : Int)) := by
  obtain ⟨p', cap', e, h1, h2, h3, h4⟩ := h
  cases e
  obtain ⟨b, off, e, hc⟩ := h4 (by omega)
  exact ⟨b, off, e, hc i _ (by rw [List.getElem?_map, List.getElem?_eq_getElem hi]; rfl)⟩
/-- Trades, four cells each. -/
def RdT (w : World) (v : Value) (ts : List Tr) : Prop := RdC w v 4 ts.length (ts.flatMap Tr.cells)
theorem tr_cell (ts : List Tr) (i j : Nat) (hi : i < ts.length) (hj : j < 4) : (ts.flatMap Tr.cells)[i * 4 + j]? = ts[i].cells[j]? := by
  induction ts generalizing i with
  | nil => simp at hi
  | cons t ts ih =>
    rw [List.flatMap_cons]
    have hl : t.cells.length = 4 := rfl
    cases i with
    | zero => rw [List.getElem?_append_left (by omega)]; simp
    | succ i =>
      rw [List.getElem?_append_right (by omega), hl, show (i + 1) * 4 + j - 4 = i * 4 + j by omega]
      simpa using ih i (by simpa using hi)
theorem RdT.at {w : World} {p : Option Addr} {m cap : Nat} {ts : List Tr} (h : RdT w (.slice p m cap) ts) (i : Nat) (hi : i < ts.length) : ∃ b off, p = some ⟨b, off, none⟩ ∧ w.rangeAt b (off + i * 4) ts[i].cells := by
  obtain ⟨p', cap', e, h1, h2, h3, h4⟩ := h
  cases e
  obtain ⟨b, off, e, hc⟩ := h4 (by omega)
  refine ⟨b, off, e, fun j u hu => ?_⟩
  have hj : j < 4 := (List.getElem?_eq_some_iff.1 hu).1
  have := hc (i * 4 + j) u (by rw [tr_cell ts i j hi hj]; exact hu)
  rwa [← Nat.add_assoc] at this
def natsN (ns : List Nat) : List UInt8 := Form.nat ns.length ++ ns.flatMap Form.nat
def natsT (ts : List Tr) : List UInt8 := Form.nat ts.length ++ ts.flatMap Tr.form
theorem flatN_len (ns : List Nat) (h : ∀ n ∈ ns, n < 2 ^ 64) : (ns.flatMap Form.nat).length ≤ ns.length * 10 := by
  induction ns with
  | nil => simp
  | cons n ns ih =>
    have h1 := Form.nat_len10 (h n (by simp))
    have h2 := ih fun m hm => h m (by simp [hm])
    rw [List.flatMap_cons, List.length_append, List.length_cons]; omega
theorem Tr.form_len {t : Tr} (h : t.ok) : t.form.length ≤ 40 := by
  have h1 := Form.nat_len10 (Form.fold_lt h.price.1 h.price.2)
  have h2 := Form.nat_len10 (Form.fold_lt h.qty.1 h.qty.2)
  have h3 := Form.nat_len10 h.number
  have h4 := Form.nat_len10 (Nat.lt_trans h.account (by decide))
  unfold Tr.form
  simp only [List.length_append]; omega
theorem flatT_len (ts : List Tr) (h : ∀ t ∈ ts, t.ok) : (ts.flatMap Tr.form).length ≤ ts.length * 40 := by
  induction ts with
  | nil => simp
  | cons n ns ih =>
    have h1 := Tr.form_len (h n (by simp))
    have h2 := ih fun m hm => h m (by simp [hm])
    rw [List.flatMap_cons, List.length_append, List.length_cons]; omega
/-- What a call that puts behind bytes leaves. -/
def PutP (B : Nat) (w : World) (F : List UInt8) (e : Ending) (w' : World) : Prop := ∃ p k c, e = .returned (.slice p k c) ∧ k = F.length ∧ OB w' B 5 (.slice p k c) F ∧ Below B w w'
set_option maxRecDepth 100000 in
theorem put36_w (base : Nat) (v : Value) (l : List UInt8) (n : Nat) (w : World) (ho : OB w base 5 v l) (hn : n < 2 ^ 32) (hl : l.length ≤ 1000000) (hb : base ≤ w.heap.size) :
    Calls Try.prog 36 #[v, .int .u32 (n : Int)] w (PutP base w (l ++ Form.nat n)) := by
  have H := Lib.hid (nat_w base v l n w ho (by omega) hl hb)
  obtain ⟨p0, c0, rfl⟩ := ho.form
  have hw : IntKind.u64.wrap (n : Int) = (n : Int) := IntWalk.u64_in _ (by omega)
  clear ho
  go_enter Try.func36, Try.ntmps36
  go_wp2_with (go_at_call 25; (with_reducible refine (H.out).mono ?_); rintro e W1 ⟨p, k, c, rfl, hk, ho, hB⟩; have HK := Lib.hid hk; have HO := Lib.hid ho; have HB := Lib.hid hB; clear hk ho hB)
  go_ret
  exact ⟨p, k, c, rfl, HK.out, HO.out, HB.out⟩
theorem put25_w (base : Nat) (v : Value) (l : List UInt8) (n : Nat) (w : World) (ho : OB w base 5 v l) (hn : n < 2 ^ 64) (hl : l.length ≤ 1000000) (hb : base ≤ w.heap.size) :
    Calls Try.prog 25 #[v, .int .u64 (n : Int)] w (PutP base w (l ++ Form.nat n)) := (nat_w base v l n w ho hn hl hb).mono fun e w' ⟨p, k, c, h1, h2, h3, h4⟩ => ⟨p, k, c, h1, h2, h3, h4⟩
set_option maxRecDepth 100000 in
set_option maxHeartbeats 3200000 in
theorem list34_w (w0 : World) (v gv : Value) (l : List UInt8) (ns : List Nat) (w : World) (ho : OB w w0.heap.size 5 v l) (hg : RdN w0 gv .u64 ns) (hB : Below w0.heap.size w0 w) (hn : ∀ n ∈ ns, n < 2 ^ 64) (hlen : ns.length ≤ 5000) (hl : l.length ≤ 800000) :
    Calls Try.prog 34 #[v, gv, .func (Fn.func 25) #[] #[]] w (PutP w0.heap.size w (l ++ natsN ns)) := by
  have HG := Lib.hid hg
  have HN := Lib.hid hn
  have HF := Lib.hid (flatN_len ns hn)
  have HL10 := Lib.hid (Form.nat_len10 (n := ns.length) (by omega))
  obtain ⟨p0, c0, rfl⟩ := ho.form
  obtain ⟨pg, cg, rfl, _⟩ := hg
  have HP := Lib.hid (put25_w w0.heap.size _ l ns.length w ho (by omega) (by omega) hB.size)
  have hwl : IntKind.u64.wrap (ns.length : Int) = (ns.length : Int) := IntWalk.u64_in _ (by omega)
  have HB := Lib.hid hB
  clear ho hn hB
  go_enter Try.func34, Try.ntmps34
  go_wp2_with (go_at_call 25; (with_reducible refine (HP.out).mono ?_); rintro e W1 ⟨p1, k1, c1, rfl, hk, ho, hB⟩; have HK := Lib.hid hk; have HO := Lib.hid ho; have HB1 := Lib.hid hB; clear hk ho hB)
  go_loopw [0, 16] (fun bv ix wr => ∃ (q : Nat) (p : Option Addr) (k c : Nat), q ≤ ns.length ∧ bv = .slice p k c ∧ ix = .int .i64 (q : Int) ∧ Hid (k = (l ++ (Form.nat ns.length ++ (ns.take q).flatMap Form.nat)).length) ∧ Hid (OB wr w0.heap.size 5 (.slice p k c) (l ++ (Form.nat ns.length ++ (ns.take q).flatMap Form.nat))) ∧ Hid (Below w0.heap.size w wr)) (fun _ ix _ => ns.length - (intOf ix).toNat)
  case atStart => exact ⟨0, p1, k1, c1, Nat.zero_le _, rfl, rfl, by simpa using HK, by simpa using HO, HB1⟩
  case round =>
    obtain ⟨q, p, k, c, hq, rfl, rfl, HKq, HOq, HBq⟩ := hrel
    by_cases hlt : q < ns.length
    · obtain ⟨b, off, rfl, hc⟩ := HG.out.at q hlt
      have hc1 : wr.cell? ⟨b, off + q, none⟩ = some (.int .u64 (ns[q] : Int)) := ((HB.out.trans HBq.out).cell (block_lt_of_cell hc)).trans hc
      have hlq : (l ++ (Form.nat ns.length ++ (ns.take q).flatMap Form.nat)).length ≤ 1000000 := by
        have h1 := flatN_len (ns.take q) (fun n hn => HN.out n (List.mem_of_mem_take hn))
        have h2 := HL10.out
        simp only [List.length_append, List.length_take] at *; omega
      have HPq := Lib.hid (put25_w w0.heap.size _ _ ns[q] wr HOq.out (HN.out _ (List.getElem_mem _)) hlq (HB.out.trans HBq.out).size)
      have Hst := Lib.hid (show l ++ (Form.nat ns.length ++ (ns.take q).flatMap Form.nat) ++ Form.nat ns[q] = l ++ (Form.nat ns.length ++ (ns.take (q + 1)).flatMap Form.nat) by
        rw [List.take_succ_eq_append_getElem hlt, List.flatMap_append]; simp [List.append_assoc])
      rw [Hst.out] at HPq
      clear hc hlq
      generalize ns[q] = x at *
      go_wp2_with (go_at_call 25; (with_reducible refine (HPq.out).mono ?_); rintro e W2 ⟨p2, k2, c2, rfl, hk, ho, hB⟩; have HK2 := Lib.hid hk; have HO2 := Lib.hid ho; have HB2 := Lib.hid (HBq.out.trans hB); clear hk ho hB)
      go_roundw
      case rel => exact ⟨q + 1, p2, k2, c2, by omega, rfl, by go_num, HK2, HO2, HB2⟩
      case measure => simp [intOf]; omega
    · have hq2 : q = ns.length := by omega
      subst hq2
      rw [List.take_length] at HKq HOq
      go_wp2
      go_ret
      exact ⟨p, k, c, rfl, HKq.out, HOq.out, HBq.out⟩
set_option maxRecDepth 100000 in
set_option maxHeartbeats 3200000 in
theorem list35_w (w0 : World) (v gv : Value) (l : List UInt8) (ns : List Nat) (w : World) (ho : OB w w0.heap.size 5 v l) (hg : RdN w0 gv .u32 ns) (hB : Below w0.heap.size w0 w) (hn : ∀ n ∈ ns, n < 2 ^ 32) (hlen : ns.length ≤ 5000) (hl : l.length ≤ 800000) :
    Calls Try.prog 35 #[v, gv, .func (Fn.func 36) #[] #[]] w (PutP w0.heap.size w (l ++ natsN ns)) := by
  have HG := Lib.hid hg
  have HN := Lib.hid hn
  have HF := Lib.hid (flatN_len ns (fun n h => Nat.lt_trans (hn n h) (by decide)))
  have HL10 := Lib.hid (Form.nat_len10 (n := ns.length) (by omega))
  obtain ⟨p0, c0, rfl⟩ := ho.form
  obtain ⟨pg, cg, rfl, _⟩ := hg
  have HP := Lib.hid (put25_w w0.heap.size _ l ns.length w ho (by omega) (by omega) hB.size)
  have hwl : IntKind.u64.wrap (ns.length : Int) = (ns.length : Int) := IntWalk.u64_in _ (by omega)
  have HB := Lib.hid hB
  clear ho hn hB
  go_enter Try.func35, Try.ntmps35
  go_wp2_with (go_at_call 25; (with_reducible refine (HP.out).mono ?_); rintro e W1 ⟨p1, k1, c1, rfl, hk, ho, hB⟩; have HK := Lib.hid hk; have HO := Lib.hid ho; have HB1 := Lib.hid hB; clear hk ho hB)
  go_loopw [0, 16] (fun bv ix wr => ∃ (q : Nat) (p : Option Addr) (k c : Nat), q ≤ ns.length ∧ bv = .slice p k c ∧ ix = .int .i64 (q : Int) ∧ Hid (k = (l ++ (Form.nat ns.length ++ (ns.take q).flatMap Form.nat)).length) ∧ Hid (OB wr w0.heap.size 5 (.slice p k c) (l ++ (Form.nat ns.length ++ (ns.take q).flatMap Form.nat))) ∧ Hid (Below w0.heap.size w wr)) (fun _ ix _ => ns.length - (intOf ix).toNat)
  case atStart => exact ⟨0, p1, k1, c1, Nat.zero_le _, rfl, rfl, by simpa using HK, by simpa using HO, HB1⟩
  case round =>
    obtain ⟨q, p, k, c, hq, rfl, rfl, HKq, HOq, HBq⟩ := hrel
    by_cases hlt : q < ns.length
    · obtain ⟨b, off, rfl, hc⟩ := HG.out.at q hlt
      have hc1 : wr.cell? ⟨b, off + q, none⟩ = some (.int .u32 (ns[q] : Int)) := ((HB.out.trans HBq.out).cell (block_lt_of_cell hc)).trans hc
      have hlq : (l ++ (Form.nat ns.length ++ (ns.take q).flatMap Form.nat)).length ≤ 1000000 := by
        have h1 := flatN_len (ns.take q) (fun n hn => Nat.lt_trans (HN.out n (List.mem_of_mem_take hn)) (by decide))
        have h2 := HL10.out
        simp only [List.length_append, List.length_take] at *; omega
      have HPq := Lib.hid (put36_w w0.heap.size _ _ ns[q] wr HOq.out (HN.out _ (List.getElem_mem _)) hlq (HB.out.trans HBq.out).size)
      have Hst := Lib.hid (show l ++ (Form.nat ns.length ++ (ns.take q).flatMap Form.nat) ++ Form.nat ns[q] = l ++ (Form.nat ns.length ++ (ns.take (q + 1)).flatMap Form.nat) by
        rw [List.take_succ_eq_append_getElem hlt, List.flatMap_append]; simp [List.append_assoc])
      rw [Hst.out] at HPq
      clear hc hlq
      generalize ns[q] = x at *
      go_wp2_with (go_at_call 36; (with_reducible refine (HPq.out).mono ?_); rintro e W2 ⟨p2, k2, c2, rfl, hk, ho, hB⟩; have HK2 := Lib.hid hk; have HO2 := Lib.hid ho; have HB2 := Lib.hid (HBq.out.trans hB); clear hk ho hB)
      go_roundw
      case rel => exact ⟨q + 1, p2, k2, c2, by omega, rfl, by go_num, HK2, HO2, HB2⟩
      case measure => simp [intOf]; omega
    · have hq2 : q = ns.length := by omega
      subst hq2
      rw [List.take_length] at HKq HOq
      go_wp2
      go_ret
      exact ⟨p, k, c, rfl, HKq.out, HOq.out, HBq.out⟩
end Go.Proofs.Ytoflehlkacofjaa
/- Trades put behind bytes. -/
namespace Go.Proofs.Ytoflehlkacofjaa
open Go.ChangeShapes Go.WideShapes Go.ChangeAt Go.RowKit
set_option linter.unusedVariables false
def trC (p q : Int) (n a : Nat) : Array Value := #[.int .i64 p, .int .i64 q, .int .u64 (n : Int), .int .u32 (a : Int)]
set_option maxRecDepth 100000 in
set_option maxHeartbeats 3200000 in
theorem put33_w (base : Nat) (v : Value) (l : List UInt8) (p q : Int) (n a : Nat) (w : World) (ho : OB w base 5 v l) (hp : Sp.i64 p) (hq : Sp.i64 q) (hn : n < 2 ^ 64) (ha : a < 2 ^ 32) (hl : l.length ≤ 890000) (hb : base ≤ w.heap.size) :
    Calls Try.prog 33 #[v, .agg #[.int .i64 p, .int .i64 q, .int .u64 (n : Int), .int .u32 (a : Int)]] w (PutP base w (l ++ (((Form.nat (Form.fold p) ++ Form.nat (Form.fold q)) ++ Form.nat n) ++ Form.nat a))) := by
  have HX := Lib.hid (heap_alloc_new w (.cells (trC p q n a) 62))
  have Hc := Lib.hid (fun (W : World) (h : (w.alloc (.cells (trC p q n a) 62)).drew.grownBy W v.ownBlock) (i : Nat) => (show W.cell? ⟨w.heap.size, i, none⟩ = (trC p q n a)[i]? from
    cell_of_row _ _ _ _ _ _ ((h.block w.heap.size (by show w.heap.size < (w.alloc _).heap.size; simp) (fun e => by have := (ho.lt _ e.symm).2; omega)).trans (heap_alloc_new w (.cells (trC p q n a) 62)))))
  have HG0 := Lib.hid (World.grownBy.refl (w.alloc (.cells (trC p q n a) 62)).drew v.ownBlock)
  have HN0 := Lib.hid (Near.refl (w.alloc (.cells (trC p q n a) 62)).drew v)
  have HO := Lib.hid (show OB (w.alloc (.cells (trC p q n a) 62)).drew base 5 v l from (ho.alloc _).keeps (Keeps.refl _).drew)
  have Hend := Lib.hid (fun (W : World) (h : (w.alloc (.cells (trC p q n a) 62)).drew.grownBy W v.ownBlock) => (show Below base w W from (((Below.refl base w).alloc hb (.cells (trC p q n a) 62)).drew).grown h (by show base ≤ (w.alloc _).heap.size; simp; omega) (fun k e => (ho.lt k e).1)))
  have hs0 : base ≤ (w.alloc (.cells (trC p q n a) 62)).drew.heap.size := by show base ≤ (w.alloc _).heap.size; simp; omega
  have Hs0 := Lib.hid hs0
  have Hp := Lib.hid hp
  have Hq := Lib.hid hq
  have hl1 : (l ++ (Form.nat (Form.fold p) ++ Form.nat (Form.fold q))).length ≤ 900000 := by
    have h1 := Form.nat_len10 (Form.fold_lt hp.1 hp.2)
    have h2 := Form.nat_len10 (Form.fold_lt hq.1 hq.2)
    simp only [List.length_append]; omega
  have hl2 : ((l ++ (Form.nat (Form.fold p) ++ Form.nat (Form.fold q))) ++ Form.nat n).length ≤ 1000000 := by
    have h3 := Form.nat_len10 hn
    rw [List.length_append]; omega
  have Hl1 := Lib.hid hl1
  have Hl2 := Lib.hid hl2
  have hwa : IntKind.u64.wrap (a : Int) = (a : Int) := IntWalk.u64_in _ (by omega)
  obtain ⟨p0, c0, rfl⟩ := ho.form
  have e0 := Hc.out _ HG0.out 0
  have e1 := Hc.out _ HG0.out 1
  have e2 := Hc.out _ HG0.out 2
  have e3 := Hc.out _ HG0.out 3
  have f0 := e0.trans (show _ = some (Value.int .i64 p) from rfl)
  have f1 := e1.trans (show _ = some (Value.int .i64 q) from rfl)
  have f2 := e2.trans (show _ = some (Value.int .u64 (n : Int)) from rfl)
  have f3 := e3.trans (show _ = some (Value.int .u32 (a : Int)) from rfl)
  obtain ⟨W0, hW0⟩ : ∃ W0, w.alloc (.cells (trC p q n a) 62) = W0 := ⟨_, rfl⟩
  have HW0 := Lib.hid (show w.alloc (.cells #[.int .i64 p, .int .i64 q, .int .u64 (n : Int), .int .u32 (a : Int)] 62) = W0 from hW0)
  rw [hW0] at Hc HG0 HN0 HO Hend Hs0 f0 f1 f2 f3
  clear ho hp hq hl1 hl2 hs0 HX hW0 e0 e1 e2 e3
  go_enter Try.func33, Try.ntmps33
  go_upto_region 1 with fail
  rw [HW0.out]
  go_region_held3 (fun w' => w'.cell? ⟨w.heap.size, 0, none⟩ = some (.int .i64 p) ∧ w'.cell? ⟨w.heap.size, 1, none⟩ = some (.int .i64 q) ∧ w'.cell? ⟨w.heap.size, 2, none⟩ = some (.int .u64 (n : Int)) ∧ w'.cell? ⟨w.heap.size, 3, none⟩ = some (.int .u32 (a : Int))) (go_keep) (first
    | (go_at_call 31; (with_reducible refine (order_w base _ l p q _ HO.out Hp.out Hq.out (by omega) Hs0.out).mono ?_); rintro e R1 ⟨r1, k1, s1, rfl, hk, ho, hg, hr⟩; have K1 := Lib.hid hk; have O1 := Lib.hid ho; have G1 := Lib.hid (grown_near HG0.out hg HN0.out); have N1 := Lib.hid (HN0.out.trans hr HG0.out.size); have S1 := Lib.hid (Nat.le_trans Hs0.out G1.out.size); have g0 := (Hc.out _ G1.out 0).trans (show _ = some (Value.int .i64 p) from rfl); have g1 := (Hc.out _ G1.out 1).trans (show _ = some (Value.int .i64 q) from rfl); have g2 := (Hc.out _ G1.out 2).trans (show _ = some (Value.int .u64 (n : Int)) from rfl); have g3 := (Hc.out _ G1.out 3).trans (show _ = some (Value.int .u32 (a : Int)) from rfl); clear hk ho hg hr)
    | (go_at_call 25
       first
         | (with_reducible refine (nat2_w base _ (l ++ (Form.nat (Form.fold p) ++ Form.nat (Form.fold q))) n _ O1.out hn (Nat.le_trans Hl1.out (by decide)) S1.out).mono ?_; rintro e R2 ⟨r2, k2, s2, rfl, hk, ho, hg, hr⟩; have K2 := Lib.hid hk; have O2 := Lib.hid ho; have G2 := Lib.hid (grown_near G1.out hg N1.out); have N2 := Lib.hid (N1.out.trans hr G1.out.size); have S2 := Lib.hid (Nat.le_trans Hs0.out G2.out.size); have g0 := (Hc.out _ G2.out 0).trans (show _ = some (Value.int .i64 p) from rfl); have g1 := (Hc.out _ G2.out 1).trans (show _ = some (Value.int .i64 q) from rfl); have g2 := (Hc.out _ G2.out 2).trans (show _ = some (Value.int .u64 (n : Int)) from rfl); have g3 := (Hc.out _ G2.out 3).trans (show _ = some (Value.int .u32 (a : Int)) from rfl); clear hk ho hg hr)
         | (with_reducible refine (nat2_w base _ ((l ++ (Form.nat (Form.fold p) ++ Form.nat (Form.fold q))) ++ Form.nat n) a _ O2.out (by omega) Hl2.out S2.out).mono ?_; rintro e R3 ⟨r3, k3, s3, rfl, hk, ho, hg, hr⟩; have K3 := Lib.hid hk; have O3 := Lib.hid ho; have G3 := Lib.hid (grown_near G2.out hg N2.out); have g0 := (Hc.out _ G3.out 0).trans (show _ = some (Value.int .i64 p) from rfl); have g1 := (Hc.out _ G3.out 1).trans (show _ = some (Value.int .i64 q) from rfl); have g2 := (Hc.out _ G3.out 2).trans (show _ = some (Value.int .u64 (n : Int)) from rfl); have g3 := (Hc.out _ G3.out 3).trans (show _ = some (Value.int .u32 (a : Int)) from rfl); clear hk ho hg hr)))
  go_wp2
  go_ret
  exact ⟨r3, k3, s3, rfl, by rw [← List.append_assoc, ← List.append_assoc l]; exact K3.out, by rw [← List.append_assoc, ← List.append_assoc l]; exact O3.out, Hend.out _ G3.out⟩
set_option maxRecDepth 100000 in
set_option maxHeartbeats 3200000 in
theorem list32_w (w0 : World) (v gv : Value) (l : List UInt8) (ts : List Tr) (w : World) (ho : OB w w0.heap.size 5 v l) (hg : RdT w0 gv ts) (hB : Below w0.heap.size w0 w) (hn : ∀ t ∈ ts, t.ok) (hlen : ts.length ≤ 5000) (hl : l.length ≤ 600000) :
    Calls Try.prog 32 #[v, gv, .func (Fn.func 33) #[] #[]] w (PutP w0.heap.size w (l ++ natsT ts)) := by
  have HG := Lib.hid hg
  have HN := Lib.hid hn
  have HL10 := Lib.hid (Form.nat_len10 (n := ts.length) (by omega))
  obtain ⟨p0, c0, rfl⟩ := ho.form
  obtain ⟨pg, cg, rfl, _⟩ := hg
  have HP := Lib.hid (put25_w w0.heap.size _ l ts.length w ho (by omega) (by omega) hB.size)
  have hwl : IntKind.u64.wrap (ts.length : Int) = (ts.length : Int) := IntWalk.u64_in _ (by omega)
  have HB := Lib.hid hB
  clear ho hn hB
  go_enter Try.func32, Try.ntmps32
  go_wp2_with (go_at_call 25; (with_reducible refine (HP.out).mono ?_); rintro e W1 ⟨p1, k1, c1, rfl, hk, ho, hB⟩; have HK := Lib.hid hk; have HO := Lib.hid ho; have HB1 := Lib.hid hB; clear hk ho hB)
  go_loopw [0, 16] (fun bv ix wr => ∃ (q : Nat) (p : Option Addr) (k c : Nat), q ≤ ts.length ∧ bv = .slice p k c ∧ ix = .int .i64 (q : Int) ∧ Hid (k = (l ++ (Form.nat ts.length ++ (ts.take q).flatMap Tr.form)).length) ∧ Hid (OB wr w0.heap.size 5 (.slice p k c) (l ++ (Form.nat ts.length ++ (ts.take q).flatMap Tr.form))) ∧ Hid (Below w0.heap.size w wr)) (fun _ ix _ => ts.length - (intOf ix).toNat)
  case atStart => exact ⟨0, p1, k1, c1, Nat.zero_le _, rfl, rfl, by simpa using HK, by simpa using HO, HB1⟩
  case round =>
    obtain ⟨q, p, k, c, hq, rfl, rfl, HKq, HOq, HBq⟩ := hrel
    by_cases hlt : q < ts.length
    · obtain ⟨b, off, rfl, hc⟩ := HG.out.at q hlt
      have hlq : (l ++ (Form.nat ts.length ++ (ts.take q).flatMap Tr.form)).length ≤ 890000 := by
        have h1 := flatT_len (ts.take q) (fun n hn => HN.out n (List.mem_of_mem_take hn))
        have h2 := HL10.out
        simp only [List.length_append, List.length_take] at *; omega
      have Hst := Lib.hid (show l ++ (Form.nat ts.length ++ (ts.take q).flatMap Tr.form) ++ (((Form.nat (Form.fold ts[q].price) ++ Form.nat (Form.fold ts[q].qty)) ++ Form.nat ts[q].number) ++ Form.nat ts[q].account) = l ++ (Form.nat ts.length ++ (ts.take (q + 1)).flatMap Tr.form) by
        rw [List.take_succ_eq_append_getElem hlt, List.flatMap_append]; simp [List.append_assoc, Tr.form])
      have hok := HN.out _ (List.getElem_mem hlt)
      have hcell : ∀ j u, ts[q].cells[j]? = some u → wr.cell? ⟨b, off + q * 4 + j, none⟩ = some u := fun j u hu => ((HB.out.trans HBq.out).cell (p := ⟨b, off + q * 4 + j, none⟩) (block_lt_of_cell (hc j u hu))).trans (hc j u hu)
      obtain ⟨hp, hq', hn', ha'⟩ := hok
      have c0' : wr.cell? ⟨b, off + q * 4, none⟩ = some (.int .i64 ts[q].price) := hcell 0 _ rfl
      have Hra := Lib.hid (show wr.rangeAt b (off + q * 4) [.int .i64 ts[q].price, .int .i64 ts[q].qty, .int .u64 (ts[q].number : Int), .int .u32 (ts[q].account : Int)] from hcell)
      generalize ts[q].price = pr at *
      generalize ts[q].qty = qt at *
      generalize ts[q].number = nu at *
      generalize ts[q].account = ac at *
      have HPq := Lib.hid (fun (W : World) (h : OB W w0.heap.size 5 (.slice p k c) (l ++ (Form.nat ts.length ++ (ts.take q).flatMap Tr.form))) (hs : w0.heap.size ≤ W.heap.size) => put33_w w0.heap.size _ _ pr qt nu ac W h hp hq' hn' ha' hlq hs)
      rw [Hst.out] at HPq
      have HOa := Lib.hid (HOq.out.alloc (.cells #[.int .i64 pr, .int .i64 qt, .int .u64 (nu : Int), .int .u32 (ac : Int)] 62))
      have HBa := Lib.hid (HBq.out.alloc (HB.out.trans HBq.out).size (.cells #[.int .i64 pr, .int .i64 qt, .int .u64 (nu : Int), .int .u32 (ac : Int)] 62))
      have Hsa := Lib.hid (HB.out.trans HBa.out).size
      clear hc hlq hcell hp hq' hn' ha'
      go_wp2_with (first
        | (refine wpList_load_mid rfl 62 (.tmp 18) rfl _ _ rfl [.int .i64 pr, .int .i64 qt, .int .u64 (nu : Int), .int .u32 (ac : Int)] _ Hra.out Try.underlying62 rfl (show _ = some 4 by kernel_rfl) ?_)
        | (go_at_call 33; (with_reducible refine (HPq.out _ HOa.out Hsa.out).mono ?_); rintro e W2 ⟨p2, k2, c2, rfl, hk, ho, hB⟩; have HK2 := Lib.hid hk; have HO2 := Lib.hid ho; have HB2 := Lib.hid (HBa.out.trans hB); clear hk ho hB))
      go_roundw
      case rel => exact ⟨q + 1, p2, k2, c2, by omega, rfl, by go_num, HK2, HO2, HB2⟩
      case measure => simp [intOf]; omega
    · have hq2 : q = ts.length := by omega
      subst hq2
      rw [List.take_length] at HKq HOq
      go_wp2
      go_ret
      exact ⟨p, k, c, rfl, HKq.out, HOq.out, HBq.out⟩
end Go.Proofs.Ytoflehlkacofjaa
