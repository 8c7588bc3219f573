/- The document's form of a reply: the walk. -/
import Derived.Test.YtoflehlkacofjaaQdC3
import Derived.Deep.MidRow
namespace Go.Proofs.Ytoflehlkacofjaa
open Go.ChangeShapes Go.WideShapes Go.ChangeAt Go.RowKit
set_option linter.unusedVariables false
/-- The reply lies at the first new block, the bytes so far in a row beyond it. -/
structure QI (w W : World) (cx : Array Value) (p : Option Addr) (k c : Nat) (l : List UInt8) : Prop where
  at_ : RrAt W w.heap.size cx
  bel : Below w.heap.size w W
  len : k = l.length
  own : OB W (w.heap.size + 1) 5 (.slice p k c) l
  size : w.heap.size + 1 ≤ W.heap.size
theorem QI.next {w W W1 : World} {cx : Array Value} {p : Option Addr} {k c : Nat} {l : List UInt8} (h : QI w W cx p k c l) (hB : Below W.heap.size W W1) : QI w W1 cx p k c l :=
  ⟨h.at_.keeps hB.block, h.bel.trans (hB.mono h.bel.size), h.len, h.own.below hB, Nat.le_trans h.size hB.size⟩
theorem QI.put {w W W1 : World} {cx : Array Value} {p p1 : Option Addr} {k c k1 c1 : Nat} {l l1 : List UInt8} (h : QI w W cx p k c l) (hn : k1 = l1.length) (ho : OB W1 (w.heap.size + 1) 5 (.slice p1 k1 c1) l1) (hg : W.grownBy W1 (Value.slice p k c).ownBlock) : QI w W1 cx p1 k1 c1 l1 := by
  have hl : ∀ g, (Value.slice p k c).ownBlock = some g → w.heap.size + 1 ≤ g := fun g e => by
    have h2 := h.own; have h3 := h.len; subst h3; exact (h2.lt g e).1
  refine ⟨?_, h.bel.grown hg h.bel.size (fun g e => Nat.le_of_succ_le (hl g e)), hn, ho, Nat.le_trans h.size hg.size⟩
  have hb := h.at_
  unfold RrAt at *
  rw [hg.block w.heap.size (by have := h.size; omega) (fun e => by have := hl _ e.symm; omega)]
  exact hb
theorem QI.alloc {w W : World} {cx : Array Value} {p : Option Addr} {k c : Nat} {l : List UInt8} (h : QI w W cx p k c l) (o : Obj) : QI w (W.alloc o) cx p k c l := h.next ((Below.refl _ W).alloc (Nat.le_refl _) o)
theorem QI.end_ {w W : World} {cx : Array Value} {p : Option Addr} {k c : Nat} {l : List UInt8} (h : QI w W cx p k c l) : PutP w.heap.size w l (.returned (.slice p k c)) W := ⟨p, k, c, rfl, h.len, ownsRow_mono_base h.own (Nat.le_succ _), h.bel⟩
/-- Another block of its own is kept by what appends. -/
theorem QI.other {w W W1 : World} {cx : Array Value} {p : Option Addr} {k c g : Nat} {l : List UInt8} {cs : Array Value} (h : QI w W cx p k c l) (hz : ZAt W g cs) (hg : W.grownBy W1 (Value.slice p k c).ownBlock) : ZAt W1 g cs := by
  unfold ZAt at *
  rw [hg.block g (Array.getElem?_eq_some_iff.1 hz).1 (fun e => by
    have ho := h.own
    rcases ho.2 with ⟨e2, _⟩ | ⟨g', cap, cur, hv, hgb, hh, _⟩
    · rw [e2] at e; cases e
    · rw [hv] at e
      have e3 : g = g' := by simpa [Value.ownBlock] using e
      subst e3
      rw [hz] at hh
      cases hh)]
  exact hz
theorem sum_le9 {x y : Nat} (h1 : x ≤ 900000) (h2 : y ≤ 250) : x + y ≤ 140737488355328 := by omega
theorem ref_err_w (x : Rp) (tv gv av : Value) (w : World) (h : RpA w tv gv av x) (k : Nat) (hk : x.errno = (k : Int)) (hk0 : k ≠ 0) (hk9 : k ≤ 999) : Calls Try.prog 18 #[.agg (rpc x tv gv av)] w (PutP w.heap.size w (Form.nat k)) := by
  have HX0 := Lib.hid (RrAt.new w (rpc x tv gv av))
  have HB0 := Lib.hid ((Below.refl w.heap.size w).alloc (Nat.le_refl _) (.cells (rpc x tv gv av) 36))
  have X0 := Lib.hid (show (rpc x tv gv av)[0]? = some (.int .i64 (k : Int)) from by rw [← hk]; rfl)
  generalize rpc x tv gv av = cx at *
  have HN := Lib.hid (fun W => refnat_w k W (by omega))
  generalize Form.nat k = F at *
  have W0 : IntKind.u64.wrap (k : Int) = (k : Int) := IntWalk.u64_in _ (by omega)
  have hne : ((k : Int) != 0) = true := by simp; omega
  have x0 := (HX0.out.at 0).trans X0.out
  clear h hk
  go_enter Try.func18, Try.ntmps18
  go_wp2_with (go_at_call 51; (with_reducible refine (HN.out _).mono ?_); rintro r w1 ⟨p1, k1, c1, rfl, ho, hk, hB⟩; have HI := Lib.hid (show QI w w1 cx p1 k1 c1 F from ⟨HX0.out.keeps hB.block, HB0.out.trans (hB.mono HB0.out.size), hk, by simpa using ho, by simpa using hB.size⟩); have y0 := (HI.out.at_.at 0).trans X0.out; clear ho hk hB)
  go_ret
  exact HI.out.end_

set_option maxRecDepth 100000 in
set_option maxHeartbeats 12800000 in
theorem ref_ok_w (x : Rp) (tv gv av : Value) (w : World) (h : RpA w tv gv av x) (h0 : x.errno = 0) (A B C : Nat → List UInt8) (F1 F2 F3 : List UInt8)
    (E1 : Form.nat 0 ++ Form.nat x.number = F1) (E2 : F1 ++ Form.nat (Form.fold x.filled) = F2) (E3 : F2 ++ Form.nat (Form.fold x.left) = F3)
    (EA0 : F3 ++ Form.nat x.trades.length = A 0) (EA : ∀ k (hk : k < x.trades.length), A k ++ Form.nat (Form.fold x.trades[k].price) ++ Form.nat (Form.fold x.trades[k].qty) ++ Form.nat x.trades[k].number ++ Form.nat x.trades[k].account = A (k + 1))
    (EB0 : A x.trades.length ++ Form.nat x.gone.length = B 0) (EB : ∀ k (hk : k < x.gone.length), B k ++ Form.nat x.gone[k] = B (k + 1))
    (EC0 : B x.gone.length ++ Form.nat x.accounts.length = C 0) (EC : ∀ k (hk : k < x.accounts.length), C k ++ Form.nat x.accounts[k] = C (k + 1))
    (LA : ∀ k, k ≤ x.trades.length → (A k).length ≤ 890000) (LB : ∀ k, k ≤ x.gone.length → (B k).length ≤ 890000) (LC : ∀ k, k ≤ x.accounts.length → (C k).length ≤ 890000)
    (hel : Elem Try.prog 39 5 (.int .u8 0) 1 1) : Calls Try.prog 18 #[.agg (rpc x tv gv av)] w (PutP w.heap.size w (C x.accounts.length)) := by
  have HX0 := Lib.hid (RrAt.new w (rpc x tv gv av))
  have HB0 := Lib.hid ((Below.refl w.heap.size w).alloc (Nat.le_refl _) (.cells (rpc x tv gv av) 36))
  have X0 := Lib.hid (show (rpc x tv gv av)[0]? = some (.int .i64 0) from by rw [← h0]; rfl)
  have X1 := Lib.hid (show (rpc x tv gv av)[1]? = some (.int .u64 (x.number : Int)) from rfl)
  have X2 := Lib.hid (show (rpc x tv gv av)[2]? = some (.int .i64 x.filled) from rfl)
  have X3 := Lib.hid (show (rpc x tv gv av)[3]? = some (.int .i64 x.left) from rfl)
  have X4 := Lib.hid (show (rpc x tv gv av)[4]? = some tv from rfl)
  have X5 := Lib.hid (show (rpc x tv gv av)[5]? = some gv from rfl)
  have X6 := Lib.hid (show (rpc x tv gv av)[6]? = some av from rfl)
  have hnu := h.ok.number
  obtain ⟨hf1, hf2⟩ : -9223372036854775808 ≤ x.filled ∧ x.filled ≤ 9223372036854775807 := h.ok.filled
  obtain ⟨hl1, hl2⟩ : -9223372036854775808 ≤ x.left ∧ x.left ≤ 9223372036854775807 := h.ok.left
  have lt_ := h.ok.lt
  have lg_ := h.ok.lg
  have la_ := h.ok.la
  have HT := Lib.hid h.t
  have HG := Lib.hid h.g
  have HA := Lib.hid h.a
  have OT := Lib.hid h.ok.trades
  have OG := Lib.hid h.ok.gone
  have OA := Lib.hid h.ok.accounts
  obtain ⟨⟨pt, ct, rfl⟩, ⟨pg, cg, rfl⟩, ⟨pa, ca, rfl⟩⟩ := h.forms
  generalize rpc x _ _ _ = cx at *
  have Hn0 := Lib.hid (fun W => (show Calls Try.prog 51 #[.int .u64 0] W _ from refnat_w 0 W (by decide)))
  have Hn1 := Lib.hid (fun W => refnat_w x.number W hnu)
  have Hn2 := Lib.hid (fun W => refint_w x.filled W hf1 hf2)
  have Hn3 := Lib.hid (fun W => refint_w x.left W hl1 hl2)
  have Hn4 := Lib.hid (fun W => refnat_w x.trades.length W (by omega))
  have Hn5 := Lib.hid (fun W => refnat_w x.gone.length W (by omega))
  have Hn6 := Lib.hid (fun W => refnat_w x.accounts.length W (by omega))
  have L1 := Lib.hid (Form.nat_len10 hnu)
  have L2 := Lib.hid (Form.nat_len10 (Form.fold_lt hf1 hf2))
  have L3 := Lib.hid (Form.nat_len10 (Form.fold_lt hl1 hl2))
  have L0 := Lib.hid (show (Form.nat 0).length ≤ 10 from Form.nat_len10 (by decide))
  have L4 := Lib.hid (show (Form.nat x.trades.length).length ≤ 10 from Form.nat_len10 (by omega))
  have L5 := Lib.hid (show (Form.nat x.gone.length).length ≤ 10 from Form.nat_len10 (by omega))
  have L6 := Lib.hid (show (Form.nat x.accounts.length).length ≤ 10 from Form.nat_len10 (by omega))
  have K1 := Lib.hid (show F1.length ≤ 20 from by have a := L1.out; have b := L0.out; rw [← E1, List.length_append]; omega)
  have K2 := Lib.hid (show F2.length ≤ 30 from by have a := L2.out; have b := K1.out; rw [← E2, List.length_append]; omega)
  have K3 := Lib.hid (show F3.length ≤ 40 from by have a := L3.out; have b := K2.out; rw [← E3, List.length_append]; omega)
  have E1 := Lib.hid E1
  have E2 := Lib.hid E2
  have E3 := Lib.hid E3
  have EA0 := Lib.hid EA0
  have EA := Lib.hid EA
  have EB0 := Lib.hid EB0
  have EB := Lib.hid EB
  have EC0 := Lib.hid EC0
  have EC := Lib.hid EC
  have LA := Lib.hid LA
  have LB := Lib.hid LB
  have LC := Lib.hid LC
  have wt : IntKind.u64.wrap (x.trades.length : Int) = (x.trades.length : Int) := IntWalk.u64_in _ (by omega)
  have wg : IntKind.u64.wrap (x.gone.length : Int) = (x.gone.length : Int) := IntWalk.u64_in _ (by omega)
  have wa : IntKind.u64.wrap (x.accounts.length : Int) = (x.accounts.length : Int) := IntWalk.u64_in _ (by omega)
  have x0 := (HX0.out.at 0).trans X0.out
  clear hnu hf1 hf2 hl1 hl2 h h0
  generalize hnu : x.number = nu at *
  generalize hfi : x.filled = fi at *
  generalize hle : x.left = le at *
  generalize x.trades = ts at *
  generalize x.gone = gs at *
  generalize x.accounts = zs at *
  clear hnu hfi hle
  generalize hN0 : Form.nat 0 = N0 at *
  generalize Form.nat nu = N1 at *
  generalize Form.nat (Form.fold fi) = N2 at *
  generalize Form.nat (Form.fold le) = N3 at *
  generalize Form.nat ts.length = N4 at *
  generalize Form.nat gs.length = N5 at *
  generalize Form.nat zs.length = N6 at *
  clear hN0
  go_enter Try.func18, Try.ntmps18
  go_wp2_with (first
    | (go_at_call 51; (with_reducible refine (Hn0.out _).mono ?_); rintro r w1 ⟨p1, k1, c1, rfl, ho, hk, hB⟩; have HI := Lib.hid (show QI w w1 cx p1 k1 c1 N0 from ⟨HX0.out.keeps hB.block, HB0.out.trans (hB.mono HB0.out.size), hk, by simpa using ho, by simpa using hB.size⟩); have y0 := (HI.out.at_.at 0).trans X0.out; have y1 := (HI.out.at_.at 1).trans X1.out; clear ho hk hB Hn0)
    | (go_at_call 51; (with_reducible refine (Hn1.out _).mono ?_); rintro r w2 ⟨q1, k2, c2, rfl, ho, hk, hB⟩; have HI1 := Lib.hid (HI.out.next hB); have Hm1 := Lib.hid ho.rd; clear ho hk hB HI Hn1)
    | (refine wpList_append_bytes rfl _ _ 39 rfl hel rfl HI1.out.own rfl Hm1.out (sum_le9 (Nat.le_trans L0.out (by decide)) (Nat.le_trans L1.out (by decide))) HI1.out.size ?_
       intro r1 k3 c3 w3 hk3 ho hg3
       rw [E1.out] at hk3 ho
       have HI2 := Lib.hid (HI1.out.put hk3 ho hg3)
       have y2 := (HI2.out.at_.at 2).trans X2.out
       clear hk3 ho hg3 HI1 Hm1)
    | (go_at_call 52; (with_reducible refine (Hn2.out _).mono ?_); rintro r w4 ⟨q2, k4, c4, rfl, ho, hk, hB⟩; have HI3 := Lib.hid (HI2.out.next hB); have Hm2 := Lib.hid ho.rd; clear ho hk hB HI2 Hn2)
    | (refine wpList_append_bytes rfl _ _ 39 rfl hel rfl HI3.out.own rfl Hm2.out (sum_le9 (Nat.le_trans K1.out (by decide)) (Nat.le_trans L2.out (by decide))) HI3.out.size ?_
       intro r2 k5 c5 w5 hk5 ho hg5
       rw [E2.out] at hk5 ho
       have HI4 := Lib.hid (HI3.out.put hk5 ho hg5)
       have y3 := (HI4.out.at_.at 3).trans X3.out
       clear hk5 ho hg5 HI3 Hm2)
    | (go_at_call 52; (with_reducible refine (Hn3.out _).mono ?_); rintro r w6 ⟨q3, k6, c6, rfl, ho, hk, hB⟩; have HI5 := Lib.hid (HI4.out.next hB); have Hm3 := Lib.hid ho.rd; clear ho hk hB HI4 Hn3)
    | (refine wpList_append_bytes rfl _ _ 39 rfl hel rfl HI5.out.own rfl Hm3.out (sum_le9 (Nat.le_trans K2.out (by decide)) (Nat.le_trans L3.out (by decide))) HI5.out.size ?_
       intro r3 k7 c7 w7 hk7 ho hg7
       rw [E3.out] at hk7 ho
       have HI6 := Lib.hid (HI5.out.put hk7 ho hg7)
       have y4 := (HI6.out.at_.at 4).trans X4.out
       clear hk7 ho hg7 HI5 Hm3)
    | (go_at_call 51; (with_reducible refine (Hn4.out _).mono ?_); rintro r w8 ⟨q4, k8, c8, rfl, ho, hk, hB⟩; have HI7 := Lib.hid (HI6.out.next hB); have Hm4 := Lib.hid ho.rd; clear ho hk hB HI6 Hn4)
    | (refine wpList_append_bytes rfl _ _ 39 rfl hel rfl HI7.out.own rfl Hm4.out (sum_le9 (Nat.le_trans K3.out (by decide)) (Nat.le_trans L4.out (by decide))) HI7.out.size ?_
       intro r4 k9 c9 w9 hk9 ho hg9
       rw [EA0.out] at hk9 ho
       have HI8 := Lib.hid (HI7.out.put hk9 ho hg9)
       clear hk9 ho hg9 HI7 Hm4))
  clear x0 HX0 HB0
  go_loopw [3, 4] (fun b i wr => ∃ (k : Nat) (p : Option Addr) (m c : Nat), k ≤ ts.length ∧ i = .int .i64 (k : Int) ∧ b = .slice p m c ∧ QI w wr cx p m c (A k)) (fun _ i _ => ts.length - (intOf i).toNat)
  case atStart => exact ⟨0, _, _, _, Nat.zero_le _, rfl, rfl, HI8.out⟩
  case round =>
    clear HI8
    obtain ⟨k, p0, k0, c0, hk, rfl, rfl, hI⟩ := hrel
    have HI := Lib.hid hI
    clear hI
    have y4 := (HI.out.at_.at 4).trans X4.out
    by_cases hlt : k < ts.length
    · obtain ⟨bb, off, he, hc⟩ := HT.out.at k hlt
      cases he
      have Hstep := Lib.hid (EA.out k hlt)
      have hLk := Lib.hid (LA.out k hk)
      obtain ⟨okp, okq, okn, oka⟩ := OT.out _ (List.getElem_mem hlt)
      obtain ⟨okp1, okp2⟩ : -9223372036854775808 ≤ ts[k].price ∧ ts[k].price ≤ 9223372036854775807 := okp
      obtain ⟨okq1, okq2⟩ : -9223372036854775808 ≤ ts[k].qty ∧ ts[k].qty ≤ 9223372036854775807 := okq
      have HT1 := Lib.hid (fun W => refint_w ts[k].price W okp1 okp2)
      have HT2 := Lib.hid (fun W => refint_w ts[k].qty W okq1 okq2)
      have HT3 := Lib.hid (fun W => refnat_w ts[k].number W okn)
      have HT4 := Lib.hid (fun W => refnat_w ts[k].account W (by omega))
      have M1 := Lib.hid (Form.nat_len10 (Form.fold_lt okp1 okp2))
      have M2 := Lib.hid (Form.nat_len10 (Form.fold_lt okq1 okq2))
      have M3 := Lib.hid (Form.nat_len10 okn)
      have M4 := Lib.hid (show (Form.nat ts[k].account).length ≤ 10 from Form.nat_len10 (by omega))
      have hwa : IntKind.u64.wrap (ts[k].account : Int) = (ts[k].account : Int) := IntWalk.u64_in _ (by omega)
      have hcell : ∀ j u, ts[k].cells[j]? = some u → wr.cell? ⟨bb, off + k * 4 + j, none⟩ = some u := fun j u hu => (HI.out.bel.cell (p := ⟨bb, off + k * 4 + j, none⟩) (block_lt_of_cell (hc j u hu))).trans (hc j u hu)
      have hc0 : wr.cell? ⟨bb, off + k * 4, none⟩ = some (.int .i64 ts[k].price) := hcell 0 _ rfl
      have Hra := Lib.hid (show wr.rangeAt bb (off + k * 4) [.int .i64 ts[k].price, .int .i64 ts[k].qty, .int .u64 (ts[k].number : Int), .int .u32 (ts[k].account : Int)] from hcell)
      clear hc hcell okn oka okp1 okp2 okq1 okq2
      generalize ts[k].price = pr at *
      generalize ts[k].qty = qt at *
      generalize ts[k].number = nn at *
      generalize ts[k].account = ac at *
      generalize Form.nat (Form.fold pr) = M1' at *
      generalize Form.nat (Form.fold qt) = M2' at *
      generalize Form.nat nn = M3' at *
      generalize Form.nat ac = M4' at *
      obtain ⟨G0, hG0⟩ : ∃ G, A k = G := ⟨_, rfl⟩
      obtain ⟨G1, hG1⟩ : ∃ G, G0 ++ M1' = G := ⟨_, rfl⟩
      obtain ⟨G2, hG2⟩ : ∃ G, G1 ++ M2' = G := ⟨_, rfl⟩
      obtain ⟨G3, hG3⟩ : ∃ G, G2 ++ M3' = G := ⟨_, rfl⟩
      obtain ⟨G4, hG4⟩ : ∃ G, G3 ++ M4' = G := ⟨_, rfl⟩
      have hst := Hstep.out
      rw [hG0, hG1, hG2, hG3, hG4] at hst
      have HST := Lib.hid hst
      have hL0 := hLk.out
      rw [hG0] at hL0 HI
      have V0 := Lib.hid (show G0.length ≤ 890000 from hL0)
      have V1 := Lib.hid (show G1.length ≤ 890010 from by have a := M1.out; have b := V0.out; rw [← hG1, List.length_append]; omega)
      have V2 := Lib.hid (show G2.length ≤ 890020 from by have a := M2.out; have b := V1.out; rw [← hG2, List.length_append]; omega)
      have V3 := Lib.hid (show G3.length ≤ 890030 from by have a := M3.out; have b := V2.out; rw [← hG3, List.length_append]; omega)
      have D1 := Lib.hid hG1
      have D2 := Lib.hid hG2
      have D3 := Lib.hid hG3
      have D4 := Lib.hid hG4
      have HIa := Lib.hid (HI.out.alloc (.cells #[.int .i64 pr, .int .i64 qt, .int .u64 (nn : Int), .int .u32 (ac : Int)] 62))
      have HZa := Lib.hid (ZAt.new wr #[.int .i64 pr, .int .i64 qt, .int .u64 (nn : Int), .int .u32 (ac : Int)])
      have hz0 := HZa.out.cc 0
      clear hG0 hG1 hG2 hG3 hG4 hst hL0
      go_wp2_with (first
        | (refine wpList_load_mid rfl 62 (.tmp 48) rfl _ _ rfl [.int .i64 pr, .int .i64 qt, .int .u64 (nn : Int), .int .u32 (ac : Int)] _ Hra.out Try.underlying62 rfl (show _ = some 4 by kernel_rfl) ?_)
        | (go_at_call 52; (with_reducible refine (HT1.out _).mono ?_); rintro r w1 ⟨p1, k1, c1, rfl, ho, hk, hB⟩; have HI1 := Lib.hid (HIa.out.next hB); have HZ1 := Lib.hid (HZa.out.keeps (show Keeps _ w1 from hB.block)); have Hm1 := Lib.hid ho.rd; clear ho hk hB HT1)
        | (at_builtin; refine wpList_append_bytes rfl _ _ 39 rfl hel rfl HI1.out.own rfl Hm1.out (sum_le9 (Nat.le_trans V0.out (by decide)) (Nat.le_trans M1.out (by decide))) HI1.out.size ?_; intro r2 k2 c2 w2 hk2 ho hg2; rw [D1.out] at hk2 ho; have HI2 := Lib.hid (HI1.out.put hk2 ho hg2); have HZ2 := Lib.hid (HI1.out.other HZ1.out hg2); have z1 := HZ2.out.cc 1; clear hk2 ho hg2 Hm1 HI1 HZ1)
        | (go_at_call 52; (with_reducible refine (HT2.out _).mono ?_); rintro r w3 ⟨p3, k3, c3, rfl, ho, hk, hB⟩; have HI3 := Lib.hid (HI2.out.next hB); have HZ3 := Lib.hid (HZ2.out.keeps (show Keeps _ w3 from hB.block)); have Hm3 := Lib.hid ho.rd; clear ho hk hB HT2)
        | (at_builtin; refine wpList_append_bytes rfl _ _ 39 rfl hel rfl HI3.out.own rfl Hm3.out (sum_le9 (Nat.le_trans V1.out (by decide)) (Nat.le_trans M2.out (by decide))) HI3.out.size ?_; intro r4 k4 c4 w4 hk4 ho hg4; rw [D2.out] at hk4 ho; have HI4 := Lib.hid (HI3.out.put hk4 ho hg4); have HZ4 := Lib.hid (HI3.out.other HZ3.out hg4); have z2 := HZ4.out.cc 2; clear hk4 ho hg4 Hm3 HI3 HZ3)
        | (go_at_call 51; (with_reducible refine (HT3.out _).mono ?_); rintro r w5 ⟨p5, k5, c5, rfl, ho, hk, hB⟩; have HI5 := Lib.hid (HI4.out.next hB); have HZ5 := Lib.hid (HZ4.out.keeps (show Keeps _ w5 from hB.block)); have Hm5 := Lib.hid ho.rd; clear ho hk hB HT3)
        | (at_builtin; refine wpList_append_bytes rfl _ _ 39 rfl hel rfl HI5.out.own rfl Hm5.out (sum_le9 (Nat.le_trans V2.out (by decide)) (Nat.le_trans M3.out (by decide))) HI5.out.size ?_; intro r6 k6 c6 w6 hk6 ho hg6; rw [D3.out] at hk6 ho; have HI6 := Lib.hid (HI5.out.put hk6 ho hg6); have HZ6 := Lib.hid (HI5.out.other HZ5.out hg6); have z3 := HZ6.out.cc 3; clear hk6 ho hg6 Hm5 HI5 HZ5)
        | (go_at_call 51; (with_reducible refine (HT4.out _).mono ?_); rintro r w7 ⟨p7, k7, c7, rfl, ho, hk, hB⟩; have HI7 := Lib.hid (HI6.out.next hB); have Hm7 := Lib.hid ho.rd; clear ho hk hB HT4)
        | (at_builtin; refine wpList_append_bytes rfl _ _ 39 rfl hel rfl HI7.out.own rfl Hm7.out (sum_le9 (Nat.le_trans V3.out (by decide)) (Nat.le_trans M4.out (by decide))) HI7.out.size ?_; intro r8 k8 c8 w8 hk8 ho hg8; rw [D4.out, HST.out] at hk8 ho; have HI8 := Lib.hid (HI7.out.put hk8 ho hg8); clear hk8 ho hg8 Hm7 HI7))
      go_roundw
      case rel => exact ⟨k + 1, _, _, _, hlt, by go_num, rfl, HI8.out⟩
      case measure => simp [intOf]; omega
    · have hk' : k = ts.length := by omega
      subst hk'
      have LAe := Lib.hid (LA.out _ (Nat.le_refl _))
      obtain ⟨A1, hA1⟩ : ∃ A1, A ts.length = A1 := ⟨_, rfl⟩
      rw [hA1] at HI LAe EB0
      clear hA1 EA LA EA0
      have y5 := (HI.out.at_.at 5).trans X5.out
      go_wp2_with (first
        | (go_at_call 51; (with_reducible refine (Hn5.out _).mono ?_); rintro r w8 ⟨q4, k8, c8, rfl, ho, hk, hB⟩; have HI7 := Lib.hid (HI.out.next hB); have Hm4 := Lib.hid ho.rd; clear ho hk hB Hn5)
        | (at_builtin; refine wpList_append_bytes rfl _ _ 39 rfl hel rfl HI7.out.own rfl Hm4.out (sum_le9 (Nat.le_trans LAe.out (by decide)) (Nat.le_trans L5.out (by decide))) HI7.out.size ?_; intro r4 k9 c9 w9 hk9 ho hg9; rw [EB0.out] at hk9 ho; have HI8 := Lib.hid (HI7.out.put hk9 ho hg9); clear hk9 ho hg9 HI7 Hm4))
      clear y4 y5 HI EB0 LAe
      go_loopw [3, 6] (fun b i wq => ∃ (k : Nat) (p : Option Addr) (m c : Nat), k ≤ gs.length ∧ i = .int .i64 (k : Int) ∧ b = .slice p m c ∧ QI w wq cx p m c (B k)) (fun _ i _ => gs.length - (intOf i).toNat)
      case atStart => exact ⟨0, _, _, _, Nat.zero_le _, rfl, rfl, HI8.out⟩
      case round =>
        clear HI8
        obtain ⟨q, p2, k2, c2, hq, rfl, rfl, hI⟩ := hrel
        have HI := Lib.hid hI
        clear hI
        have y5 := (HI.out.at_.at 5).trans X5.out
        by_cases hltq : q < gs.length
        · obtain ⟨bb, off, he, hc⟩ := HG.out.at q hltq
          cases he
          have Hstep := Lib.hid (EB.out q hltq)
          have hLk := Lib.hid (LB.out q hq)
          have okn := OG.out _ (List.getElem_mem hltq)
          have HT3 := Lib.hid (fun W => refnat_w gs[q] W okn)
          have M3 := Lib.hid (Form.nat_len10 okn)
          have hcell := (HI.out.bel.cell (p := ⟨bb, off + q, none⟩) (block_lt_of_cell hc)).trans hc
          clear hc okn
          generalize gs[q] = nn at *
          generalize Form.nat nn = M3' at *
          go_wp2_with (first
            | (go_at_call 51; (with_reducible refine (HT3.out _).mono ?_); rintro r w5 ⟨p5, k5, c5, rfl, ho, hk, hB⟩; have HI5 := Lib.hid (HI.out.next hB); have Hm5 := Lib.hid ho.rd; clear ho hk hB HT3)
            | (at_builtin; refine wpList_append_bytes rfl _ _ 39 rfl hel rfl HI5.out.own rfl Hm5.out (sum_le9 (Nat.le_trans hLk.out (by decide)) (Nat.le_trans M3.out (by decide))) HI5.out.size ?_; intro r6 k6 c6 w6 hk6 ho hg6; rw [Hstep.out] at hk6 ho; have HI6 := Lib.hid (HI5.out.put hk6 ho hg6); clear hk6 ho hg6 Hm5 HI5))
          go_roundw
          case rel => exact ⟨q + 1, _, _, _, hltq, by go_num, rfl, HI6.out⟩
          case measure => simp [intOf]; omega
        · have hq' : q = gs.length := by omega
          subst hq'
          have LBe := Lib.hid (LB.out _ (Nat.le_refl _))
          obtain ⟨B1, hB1⟩ : ∃ B1, B gs.length = B1 := ⟨_, rfl⟩
          rw [hB1] at HI LBe EC0
          clear hB1 EB LB
          have y6 := (HI.out.at_.at 6).trans X6.out
          go_wp2_with (first
            | (go_at_call 51; (with_reducible refine (Hn6.out _).mono ?_); rintro r w8 ⟨q4, k8, c8, rfl, ho, hk, hB⟩; have HI7 := Lib.hid (HI.out.next hB); have Hm4 := Lib.hid ho.rd; clear ho hk hB Hn6)
            | (at_builtin; refine wpList_append_bytes rfl _ _ 39 rfl hel rfl HI7.out.own rfl Hm4.out (sum_le9 (Nat.le_trans LBe.out (by decide)) (Nat.le_trans L6.out (by decide))) HI7.out.size ?_; intro r4 k9 c9 w9 hk9 ho hg9; rw [EC0.out] at hk9 ho; have HI8 := Lib.hid (HI7.out.put hk9 ho hg9); clear hk9 ho hg9 HI7 Hm4))
          clear y5 y6 HI EC0 LBe
          go_loopw [3, 7] (fun b i wp => ∃ (k : Nat) (p : Option Addr) (m c : Nat), k ≤ zs.length ∧ i = .int .i64 (k : Int) ∧ b = .slice p m c ∧ QI w wp cx p m c (C k)) (fun _ i _ => zs.length - (intOf i).toNat)
          case atStart => exact ⟨0, _, _, _, Nat.zero_le _, rfl, rfl, HI8.out⟩
          case round =>
            clear HI8
            obtain ⟨z, p3, k3, c3, hz, rfl, rfl, hI⟩ := hrel
            have HI := Lib.hid hI
            clear hI
            have y6 := (HI.out.at_.at 6).trans X6.out
            by_cases hltz : z < zs.length
            · obtain ⟨bb, off, he, hc⟩ := HA.out.at z hltz
              cases he
              have Hstep := Lib.hid (EC.out z hltz)
              have hLk := Lib.hid (LC.out z hz)
              have okn := OA.out _ (List.getElem_mem hltz)
              have HT3 := Lib.hid (fun W => refnat_w zs[z] W (by omega))
              have M3 := Lib.hid (Form.nat_len10 (n := zs[z]) (by omega))
              have hcell := (HI.out.bel.cell (p := ⟨bb, off + z, none⟩) (block_lt_of_cell hc)).trans hc
              have hwa : IntKind.u64.wrap (zs[z] : Int) = (zs[z] : Int) := IntWalk.u64_in _ (by omega)
              clear hc okn
              generalize zs[z] = nn at *
              generalize Form.nat nn = M3' at *
              go_wp2_with (first
                | (go_at_call 51; (with_reducible refine (HT3.out _).mono ?_); rintro r w5 ⟨p5, k5, c5, rfl, ho, hk, hB⟩; have HI5 := Lib.hid (HI.out.next hB); have Hm5 := Lib.hid ho.rd; clear ho hk hB HT3)
                | (at_builtin; refine wpList_append_bytes rfl _ _ 39 rfl hel rfl HI5.out.own rfl Hm5.out (sum_le9 (Nat.le_trans hLk.out (by decide)) (Nat.le_trans M3.out (by decide))) HI5.out.size ?_; intro r6 k6 c6 w6 hk6 ho hg6; rw [Hstep.out] at hk6 ho; have HI6 := Lib.hid (HI5.out.put hk6 ho hg6); clear hk6 ho hg6 Hm5 HI5))
              go_roundw
              case rel => exact ⟨z + 1, _, _, _, hltz, by go_num, rfl, HI6.out⟩
              case measure => simp [intOf]; omega
            · have hz' : z = zs.length := by omega
              subst hz'
              go_wp2
              go_ret
              exact HI.out.end_
theorem flatT_take (ts : List Tr) (k : Nat) (hk : k < ts.length) : (ts.take (k + 1)).flatMap Tr.form = (ts.take k).flatMap Tr.form ++ ts[k].form := by
  rw [List.take_succ_eq_append_getElem hk, List.flatMap_append]; simp
theorem flatN_take (ts : List Nat) (k : Nat) (hk : k < ts.length) : (ts.take (k + 1)).flatMap Form.nat = (ts.take k).flatMap Form.nat ++ Form.nat ts[k] := by
  rw [List.take_succ_eq_append_getElem hk, List.flatMap_append]; simp
theorem refreply18_w (x : Rp) (tv gv av : Value) (w : World) (h : RpA w tv gv av x) (hm : x.mayB = true) : Calls Try.prog 18 #[.agg (rpc x tv gv av)] w (PutP w.heap.size w x.form) := by
  obtain ⟨m1, m2, m3, m4, m5⟩ := mayR_open hm
  by_cases h0 : x.errno = 0
  · have n3 : (Form.nat x.trades.length).length ≤ 10 := Form.nat_len10 (by omega)
    have n4 : (Form.nat x.gone.length).length ≤ 10 := Form.nat_len10 (by omega)
    have n5 : (Form.nat x.accounts.length).length ≤ 10 := Form.nat_len10 (by omega)
    have n0 : (Form.nat 0).length ≤ 10 := Form.nat_len10 (by decide)
    have n1 := Form.nat_len10 h.ok.number
    have n2 := Form.nat_len10 (Form.fold_lt h.ok.filled.1 h.ok.filled.2)
    have n2' := Form.nat_len10 (Form.fold_lt h.ok.left.1 h.ok.left.2)
    have LT : ∀ k, k ≤ x.trades.length → ((x.trades.take k).flatMap Tr.form).length ≤ 160000 := fun k hk => by
      have := flatT_len (x.trades.take k) (fun t ht => h.ok.trades t (List.mem_of_mem_take ht))
      rw [List.length_take] at this; omega
    have LG : ∀ k, k ≤ x.gone.length → ((x.gone.take k).flatMap Form.nat).length ≤ 40000 := fun k hk => by
      have := flatN_len (x.gone.take k) (fun t ht => h.ok.gone t (List.mem_of_mem_take ht))
      rw [List.length_take] at this; omega
    have LA : ∀ k, k ≤ x.accounts.length → ((x.accounts.take k).flatMap Form.nat).length ≤ 40000 := fun k hk => by
      have := flatN_len (x.accounts.take k) (fun t ht => by have := h.ok.accounts t (List.mem_of_mem_take ht); omega)
      rw [List.length_take] at this; omega
    have LT' := LT _ (Nat.le_refl _)
    have LG' := LG _ (Nat.le_refl _)
    rw [List.take_length] at LT' LG'
    have hF : x.form = (((((Form.nat 0 ++ Form.nat x.number) ++ Form.nat (Form.fold x.filled)) ++ Form.nat (Form.fold x.left) ++ Form.nat x.trades.length ++ x.trades.flatMap Tr.form) ++ Form.nat x.gone.length ++ x.gone.flatMap Form.nat) ++ Form.nat x.accounts.length ++ (x.accounts.take x.accounts.length).flatMap Form.nat) := by
      unfold Rp.form natsT natsN
      rw [if_pos h0, List.take_length]
      simp only [List.append_assoc]
    rw [hF]
    have hel : Elem Try.prog 39 5 (.int .u8 0) 1 1 := hel
    refine ref_ok_w x tv gv av w h h0 (fun k => ((Form.nat 0 ++ Form.nat x.number) ++ Form.nat (Form.fold x.filled)) ++ Form.nat (Form.fold x.left) ++ Form.nat x.trades.length ++ (x.trades.take k).flatMap Tr.form)
      (fun k => (((Form.nat 0 ++ Form.nat x.number) ++ Form.nat (Form.fold x.filled)) ++ Form.nat (Form.fold x.left) ++ Form.nat x.trades.length ++ x.trades.flatMap Tr.form) ++ Form.nat x.gone.length ++ (x.gone.take k).flatMap Form.nat)
      (fun k => (((((Form.nat 0 ++ Form.nat x.number) ++ Form.nat (Form.fold x.filled)) ++ Form.nat (Form.fold x.left) ++ Form.nat x.trades.length ++ x.trades.flatMap Tr.form) ++ Form.nat x.gone.length ++ x.gone.flatMap Form.nat) ++ Form.nat x.accounts.length ++ (x.accounts.take k).flatMap Form.nat))
      _ _ _ rfl rfl rfl (by simp) ?_ (by simp) ?_ (by simp) ?_ ?_ ?_ ?_ hel
    · intro k hk
      simp only [flatT_take _ k hk, Tr.form, List.append_assoc]
    · intro k hk
      simp only [flatN_take _ k hk, List.append_assoc]
    · intro k hk
      simp only [flatN_take _ k hk, List.append_assoc]
    · intro k hk
      have := LT k hk
      simp only [List.length_append]; omega
    · intro k hk
      have := LG k hk
      simp only [List.length_append]; omega
    · intro k hk
      have := LA k hk
      simp only [List.length_append]; omega
  · obtain ⟨k, hk⟩ : ∃ k : Nat, x.errno = (k : Int) := ⟨x.errno.toNat, by omega⟩
    have hF : x.form = Form.nat k := by
      unfold Rp.form
      rw [if_neg h0, hk, Int.toNat_natCast]
    rw [hF]
    exact ref_err_w x tv gv av w h k hk (by omega) (by omega)
end Go.Proofs.Ytoflehlkacofjaa
