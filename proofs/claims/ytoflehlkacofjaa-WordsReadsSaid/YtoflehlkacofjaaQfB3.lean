/- The document's form of a command: the walk. -/
import Derived.Test.YtoflehlkacofjaaQfB2
namespace Go.Proofs.Ytoflehlkacofjaa
open Go.ChangeShapes Go.WideShapes Go.ChangeAt Go.RowKit
set_option linter.unusedVariables false
/-- The command lies at the first new block, the bytes so far in a row beyond it. -/
structure KI (w W : World) (cx : Array Value) (p : Option Addr) (k c : Nat) (l : List UInt8) : Prop where
  at_ : CcAt W w.heap.size cx
  bel : Below w.heap.size w W
  len : k = l.length
  own : OB W (w.heap.size + 1) 5 (.slice p k c) l
  size : w.heap.size + 1 ≤ W.heap.size
theorem KI.next {w W W1 : World} {cx : Array Value} {p : Option Addr} {k c : Nat} {l : List UInt8} (h : KI w W cx p k c l) (hB : Below W.heap.size W W1) : KI w W1 cx p k c l :=
  ⟨h.at_.keeps hB.block, h.bel.trans (hB.mono h.bel.size), h.len, h.own.below hB, Nat.le_trans h.size hB.size⟩
theorem KI.put {w W W1 : World} {cx : Array Value} {p p1 : Option Addr} {k c k1 c1 : Nat} {l l1 : List UInt8} (h : KI w W cx p k c l) (hn : k1 = l1.length) (ho : OB W1 (w.heap.size + 1) 5 (.slice p1 k1 c1) l1) (hg : W.grownBy W1 (Value.slice p k c).ownBlock) : KI w W1 cx p1 k1 c1 l1 := by
  have hl : ∀ g, (Value.slice p k c).ownBlock = some g → w.heap.size + 1 ≤ g := fun g e => by
    have h2 := h.own; have h3 := h.len; subst h3; exact (h2.lt g e).1
  refine ⟨?_, h.bel.grown hg h.bel.size (fun g e => Nat.le_of_succ_le (hl g e)), hn, ho, Nat.le_trans h.size hg.size⟩
  have hb := h.at_
  unfold CcAt at *
  rw [hg.block w.heap.size (by have := h.size; omega) (fun e => by have := hl _ e.symm; omega)]
  exact hb
theorem flds_mem (k : Nat) : ∀ y ∈ flds k, y = 97 ∨ y = 99 ∨ y = 110 ∨ y = 109 ∨ y = 115 ∨ y = 111 ∨ y = 98 ∨ y = 107 ∨ y = 112 ∨ y = 113 := by
  intro y
  unfold flds
  repeat' split
  all_goals (revert y; decide)
namespace Cm
/-- Its form up to its i-th letter. -/
def upto (x : Cm) (i : Nat) : List UInt8 := Form.nat x.kind ++ ((flds x.kind).take i).flatMap x.piece
theorem upto_all (x : Cm) : x.upto (flds x.kind).length = x.form := by unfold upto form; rw [List.take_length]
theorem upto_zero (x : Cm) : x.upto 0 = Form.nat x.kind := by simp [upto]
theorem upto_succ (x : Cm) (i : Nat) (h : i < (flds x.kind).length) : x.upto (i + 1) = x.upto i ++ x.piece ((flds x.kind)[i]'h) := by
  unfold upto
  rw [List.take_add_one, List.getElem?_eq_getElem h, List.flatMap_append, List.append_assoc]
  simp
theorem form_le250 (s : Sp) (h : s.ok) : s.form.length ≤ 250 := by
  have h2 := s.formN_le h 25
  rw [s.formN_form] at h2
  omega
theorem piece_le (x : Cm) (h : x.ok) (y : UInt8) : (x.piece y).length ≤ 250 := by
  have n : ∀ a, a < 2 ^ 64 → (Form.nat a).length ≤ 250 := fun a ha => by have := Form.nat_len10 ha; omega
  have f : ∀ a, Sp.i64 a → (Form.nat (Form.fold a)).length ≤ 250 := fun a ha => n _ (Form.fold_lt ha.1 ha.2)
  have g : ∀ b, (Form.flag b).length ≤ 250 := fun b => by cases b <;> decide
  have h1 := h.account; have h2 := h.contract; have h3 := h.as_
  unfold piece
  split; · exact n _ (by omega)
  split; · exact n _ (by omega)
  split; · exact n _ h.number
  split; · exact f _ h.amount
  split; · exact form_le250 _ h.spec
  split; · exact g _
  split; · exact g _
  split; · exact n _ (by omega)
  split; · exact f _ h.price
  split; · exact f _ h.qty
  decide
theorem upto_le (x : Cm) (h : x.ok) : ∀ i, (x.upto i).length ≤ 10 + 250 * i := by
  intro i
  have hk := h.kind
  induction i with
  | zero => rw [upto_zero]; exact Form.nat_len10 (by omega)
  | succ i ih =>
    by_cases hi : i < (flds x.kind).length
    · rw [upto_succ x i hi, List.length_append]; have := x.piece_le h ((flds x.kind)[i]'hi); omega
    · unfold upto at *; rw [List.take_of_length_le (by omega)] at *; omega
end Cm
theorem sum_le2 {x y a : Nat} (h1 : x ≤ a) (h2 : y ≤ 250) (h : a ≤ 100000) : x + y ≤ 140737488355328 := by omega

set_option maxRecDepth 100000 in
set_option maxHeartbeats 12800000 in
theorem refcmd22_w (x : Cm) (hok : x.ok) (w : World) : Calls Try.prog 22 #[.agg x.cells] w fun r w' => ∃ p k c, r = .returned (.slice p k c) ∧ k = x.form.length ∧ OB w' w.heap.size 5 (.slice p k c) x.form ∧ Below w.heap.size w w' := by
  obtain ⟨cx, hcx⟩ : ∃ cx, x.cells = cx := ⟨_, rfl⟩
  have XS := Lib.hid (show ∀ W B, CcAt W B cx → CcAt W B x.cells from fun W B h => by rw [hcx]; exact h)
  have hsz : cx.size = 35 := by rw [← hcx]; rfl
  rw [hcx]
  have HX0 := Lib.hid (CcAt.new w cx)
  have HB0 := Lib.hid ((Below.refl w.heap.size w).alloc (Nat.le_refl _) (.cells cx 30))
  have HFl := Lib.hid (fun W => fields55_w x.kind W)
  have Hlen := Lib.hid (flds_len x.kind)
  have Hmem := Lib.hid (flds_mem x.kind)
  have Hs := Lib.hid x.upto_succ
  have Hz := Lib.hid x.upto_zero
  have Hall := Lib.hid x.upto_all
  have Hle := Lib.hid (x.upto_le hok)
  have P97 := Lib.hid (show x.piece 97 = Form.nat x.account from rfl)
  have P99 := Lib.hid (show x.piece 99 = Form.nat x.contract from rfl)
  have P110 := Lib.hid (show x.piece 110 = Form.nat x.number from rfl)
  have P109 := Lib.hid (show x.piece 109 = Form.nat (Form.fold x.amount) from rfl)
  have P115 := Lib.hid (show x.piece 115 = x.spec.form from rfl)
  have P111 := Lib.hid (show x.piece 111 = Form.flag x.on from rfl)
  have P98 := Lib.hid (show x.piece 98 = Form.flag x.buy from rfl)
  have P107 := Lib.hid (show x.piece 107 = Form.nat x.as_ from rfl)
  have P112 := Lib.hid (show x.piece 112 = Form.nat (Form.fold x.price) from rfl)
  have P113 := Lib.hid (show x.piece 113 = Form.nat (Form.fold x.qty) from rfl)
  have Hple := Lib.hid (x.piece_le hok)
  have HSF := Lib.hid (fun W => refform_w x.spec W hok.spec)
  have X0 := Lib.hid (show cx[0]? = some (.int .u8 (x.kind : Int)) by rw [← hcx]; rfl)
  have X1 := Lib.hid (show cx[1]? = some (.int .u32 (x.account : Int)) by rw [← hcx]; rfl)
  have X2 := Lib.hid (show cx[2]? = some (.int .u32 (x.contract : Int)) by rw [← hcx]; rfl)
  have X3 := Lib.hid (show cx[3]? = some (.int .u64 (x.number : Int)) by rw [← hcx]; rfl)
  have X4 := Lib.hid (show cx[4]? = some (.int .i64 x.amount) by rw [← hcx]; rfl)
  have X30 := Lib.hid (show cx[30]? = some (.bool x.on) by rw [← hcx]; rfl)
  have X31 := Lib.hid (show cx[31]? = some (.bool x.buy) by rw [← hcx]; rfl)
  have X32 := Lib.hid (show cx[32]? = some (.int .u8 (x.as_ : Int)) by rw [← hcx]; rfl)
  have X33 := Lib.hid (show cx[33]? = some (.int .i64 x.price) by rw [← hcx]; rfl)
  have X34 := Lib.hid (show cx[34]? = some (.int .i64 x.qty) by rw [← hcx]; rfl)
  have hk := hok.kind
  have ha := hok.account
  have hn := hok.contract
  have hu := hok.number
  obtain ⟨hm1, hm2⟩ : -9223372036854775808 ≤ x.amount ∧ x.amount ≤ 9223372036854775807 := hok.amount
  have hz := hok.as_
  obtain ⟨hp1, hp2⟩ : -9223372036854775808 ≤ x.price ∧ x.price ≤ 9223372036854775807 := hok.price
  obtain ⟨hq1, hq2⟩ : -9223372036854775808 ≤ x.qty ∧ x.qty ≤ 9223372036854775807 := hok.qty
  have W0 : IntKind.u64.wrap (x.kind : Int) = (x.kind : Int) := IntWalk.u64_in _ (by omega)
  have W1 : IntKind.u64.wrap (x.account : Int) = (x.account : Int) := IntWalk.u64_in _ (by omega)
  have W2 : IntKind.u64.wrap (x.contract : Int) = (x.contract : Int) := IntWalk.u64_in _ (by omega)
  have W3 : IntKind.u64.wrap (x.as_ : Int) = (x.as_ : Int) := IntWalk.u64_in _ (by omega)
  have HNk := Lib.hid (fun W => refnat_w x.kind W (by omega))
  have HNa := Lib.hid (fun W => refnat_w x.account W (by omega))
  have HNn := Lib.hid (fun W => refnat_w x.contract W (by omega))
  have HNu := Lib.hid (fun W => refnat_w x.number W hu)
  have HNm := Lib.hid (fun W => refint_w x.amount W hm1 hm2)
  have HNo := Lib.hid (fun W => refflag_w x.on W)
  have HNb := Lib.hid (fun W => refflag_w x.buy W)
  have HNz := Lib.hid (fun W => refnat_w x.as_ W (by omega))
  have HNp := Lib.hid (fun W => refint_w x.price W hp1 hp2)
  have HNq := Lib.hid (fun W => refint_w x.qty W hq1 hq2)
  clear hcx hok hk ha hn hu hm1 hm2 hz hp1 hp2 hq1 hq2
  generalize x.upto = A at *
  generalize x.piece = pc at *
  generalize x.form = F at *
  generalize x.kind = kd at *
  generalize x.account = a at *
  generalize x.contract = n at *
  generalize x.number = u at *
  generalize x.amount = m at *
  generalize x.on = o at *
  generalize x.buy = b at *
  generalize x.as_ = z at *
  generalize x.price = p at *
  generalize x.qty = q at *
  obtain ⟨fs, hfs⟩ : ∃ fs : ByteArray, (⟨(flds kd).toArray⟩ : ByteArray) = fs := ⟨_, rfl⟩
  have hszf : fs.size = (flds kd).length := by rw [← hfs]; simp [ByteArray.size]
  have Hget := Lib.hid (show ∀ (k : Nat) (h : k < fs.size) (h2 : k < (flds kd).length), fs[k]'h = (flds kd)[k]'h2 from fun k h h2 => by subst hfs; rfl)
  rw [hfs] at HFl
  clear hfs
  generalize flds kd = f at *
  have x0 := (HX0.out.at 0).trans X0.out
  go_enter Try.func22, Try.ntmps22
  go_wp2_with (first
    | (go_at_call 51; (with_reducible refine (HNk.out _).mono ?_); rintro r w1 ⟨p1, k1, c1, rfl, ho, hk, hB⟩; have HI := Lib.hid (show KI w w1 cx p1 k1 c1 (A 0) from ⟨HX0.out.keeps hB.block, HB0.out.trans (hB.mono HB0.out.size), by rw [Hz.out]; exact hk, by rw [Hz.out]; simpa using ho, by simpa using hB.size⟩); have y0 := (HI.out.at_.at 0).trans X0.out; clear ho hk hB)
    | (go_at_call 55; (with_reducible refine (HFl.out _).mono ?_); rintro r w2 ⟨rfl, rfl⟩))
  clear x0 y0 HNk HFl HB0 HX0
  go_loopw [3, 5] (fun b i wr => ∃ (k : Nat) (p : Option Addr) (m c : Nat), k ≤ f.length ∧ i = .int .i64 (k : Int) ∧ b = .slice p m c ∧ KI w wr cx p m c (A k)) (fun _ i _ => f.length - (intOf i).toNat)
  case atStart => exact ⟨0, _, _, _, Nat.zero_le _, rfl, rfl, HI.out⟩
  case round =>
    clear HI
    obtain ⟨k, p0, k0, c0, hk, rfl, rfl, hI⟩ := hrel
    have HI := Lib.hid hI
    clear hI
    by_cases hlt : k < f.length
    · have hg := Hget.out k (by omega) hlt
      have hl10 := Hlen.out
      have Hs1 := Lib.hid (Hs.out k hlt)
      have hmem := Hmem.out _ (List.getElem_mem hlt)
      have Hl := Lib.hid (Hle.out k)
      have Hkb := Lib.hid (show 10 + 250 * k ≤ 100000 by have := Hlen.out; omega)
      obtain ⟨y, hy⟩ : ∃ y, f[k]'hlt = y := ⟨_, rfl⟩
      rw [hy] at hg Hs1 hmem
      clear hy
      rcases hmem with rfl | rfl | rfl | rfl | rfl | rfl | rfl | rfl | rfl | rfl
      · have y1 := (HI.out.at_.at 1).trans X1.out
        have Hp := Lib.hid (Hple.out 97)
        go_wp2_with (first
          | (go_at_call 51; (with_reducible refine (HNa.out _).mono ?_); rintro r w1 ⟨p1, k1, c1, rfl, ho, hk, hB⟩; rw [← P97.out] at ho; have HI := Lib.hid (HI.out.next hB); have Hm := Lib.hid ho.rd; clear ho hk hB)
          | (refine wpList_append_bytes rfl _ _ 39 rfl hel rfl HI.out.own rfl Hm.out (sum_le2 Hl.out Hp.out Hkb.out) HI.out.size ?_
             intro p2 k2 c2 w2 hk2 ho hg2
             rw [← Hs1.out] at hk2 ho
             have HI := Lib.hid (HI.out.put hk2 ho hg2)
             clear hk2 ho hg2))
        go_roundw
        case rel => exact ⟨k + 1, _, _, _, hlt, by go_num, rfl, HI.out⟩
        case measure => simp [intOf]; omega
      · have y1 := (HI.out.at_.at 2).trans X2.out
        have Hp := Lib.hid (Hple.out 99)
        go_wp2_with (first
          | (go_at_call 51; (with_reducible refine (HNn.out _).mono ?_); rintro r w1 ⟨p1, k1, c1, rfl, ho, hk, hB⟩; rw [← P99.out] at ho; have HI := Lib.hid (HI.out.next hB); have Hm := Lib.hid ho.rd; clear ho hk hB)
          | (refine wpList_append_bytes rfl _ _ 39 rfl hel rfl HI.out.own rfl Hm.out (sum_le2 Hl.out Hp.out Hkb.out) HI.out.size ?_
             intro p2 k2 c2 w2 hk2 ho hg2
             rw [← Hs1.out] at hk2 ho
             have HI := Lib.hid (HI.out.put hk2 ho hg2)
             clear hk2 ho hg2))
        go_roundw
        case rel => exact ⟨k + 1, _, _, _, hlt, by go_num, rfl, HI.out⟩
        case measure => simp [intOf]; omega
      · have y1 := (HI.out.at_.at 3).trans X3.out
        have Hp := Lib.hid (Hple.out 110)
        go_wp2_with (first
          | (go_at_call 51; (with_reducible refine (HNu.out _).mono ?_); rintro r w1 ⟨p1, k1, c1, rfl, ho, hk, hB⟩; rw [← P110.out] at ho; have HI := Lib.hid (HI.out.next hB); have Hm := Lib.hid ho.rd; clear ho hk hB)
          | (refine wpList_append_bytes rfl _ _ 39 rfl hel rfl HI.out.own rfl Hm.out (sum_le2 Hl.out Hp.out Hkb.out) HI.out.size ?_
             intro p2 k2 c2 w2 hk2 ho hg2
             rw [← Hs1.out] at hk2 ho
             have HI := Lib.hid (HI.out.put hk2 ho hg2)
             clear hk2 ho hg2))
        go_roundw
        case rel => exact ⟨k + 1, _, _, _, hlt, by go_num, rfl, HI.out⟩
        case measure => simp [intOf]; omega
      · have y1 := (HI.out.at_.at 4).trans X4.out
        have Hp := Lib.hid (Hple.out 109)
        go_wp2_with (first
          | (go_at_call 52; (with_reducible refine (HNm.out _).mono ?_); rintro r w1 ⟨p1, k1, c1, rfl, ho, hk, hB⟩; rw [← P109.out] at ho; have HI := Lib.hid (HI.out.next hB); have Hm := Lib.hid ho.rd; clear ho hk hB)
          | (refine wpList_append_bytes rfl _ _ 39 rfl hel rfl HI.out.own rfl Hm.out (sum_le2 Hl.out Hp.out Hkb.out) HI.out.size ?_
             intro p2 k2 c2 w2 hk2 ho hg2
             rw [← Hs1.out] at hk2 ho
             have HI := Lib.hid (HI.out.put hk2 ho hg2)
             clear hk2 ho hg2))
        go_roundw
        case rel => exact ⟨k + 1, _, _, _, hlt, by go_num, rfl, HI.out⟩
        case measure => simp [intOf]; omega
      · have Hp := Lib.hid (Hple.out 115)
        go_wp2_with (first
          | (refine wpList_load_sp6 (x := x) rfl (.tmp 55) rfl rfl (XS.out _ _ HI.out.at_) ?_)
          | (go_at_call 63; (with_reducible refine (HSF.out _).mono ?_); rintro r w1 ⟨p1, k1, c1, rfl, hk, ho, hB⟩; rw [← P115.out] at ho; have HI := Lib.hid (HI.out.next hB); have Hm := Lib.hid ho.rd; clear ho hk hB)
          | (refine wpList_append_bytes rfl _ _ 39 rfl hel rfl HI.out.own rfl Hm.out (sum_le2 Hl.out Hp.out Hkb.out) HI.out.size ?_
             intro p2 k2 c2 w2 hk2 ho hg2
             rw [← Hs1.out] at hk2 ho
             have HI := Lib.hid (HI.out.put hk2 ho hg2)
             clear hk2 ho hg2))
        go_roundw
        case rel => exact ⟨k + 1, _, _, _, hlt, by go_num, rfl, HI.out⟩
        case measure => simp [intOf]; omega
      · have y1 := (HI.out.at_.at 30).trans X30.out
        have Hp := Lib.hid (Hple.out 111)
        go_wp2_with (first
          | (go_at_call 64; (with_reducible refine (HNo.out _).mono ?_); rintro r w1 ⟨p1, k1, c1, rfl, ho, hk, hB⟩; rw [← P111.out] at ho; have HI := Lib.hid (HI.out.next hB); have Hm := Lib.hid ho.rd; clear ho hk hB)
          | (refine wpList_append_bytes rfl _ _ 39 rfl hel rfl HI.out.own rfl Hm.out (sum_le2 Hl.out Hp.out Hkb.out) HI.out.size ?_
             intro p2 k2 c2 w2 hk2 ho hg2
             rw [← Hs1.out] at hk2 ho
             have HI := Lib.hid (HI.out.put hk2 ho hg2)
             clear hk2 ho hg2))
        go_roundw
        case rel => exact ⟨k + 1, _, _, _, hlt, by go_num, rfl, HI.out⟩
        case measure => simp [intOf]; omega
      · have y1 := (HI.out.at_.at 31).trans X31.out
        have Hp := Lib.hid (Hple.out 98)
        go_wp2_with (first
          | (go_at_call 64; (with_reducible refine (HNb.out _).mono ?_); rintro r w1 ⟨p1, k1, c1, rfl, ho, hk, hB⟩; rw [← P98.out] at ho; have HI := Lib.hid (HI.out.next hB); have Hm := Lib.hid ho.rd; clear ho hk hB)
          | (refine wpList_append_bytes rfl _ _ 39 rfl hel rfl HI.out.own rfl Hm.out (sum_le2 Hl.out Hp.out Hkb.out) HI.out.size ?_
             intro p2 k2 c2 w2 hk2 ho hg2
             rw [← Hs1.out] at hk2 ho
             have HI := Lib.hid (HI.out.put hk2 ho hg2)
             clear hk2 ho hg2))
        go_roundw
        case rel => exact ⟨k + 1, _, _, _, hlt, by go_num, rfl, HI.out⟩
        case measure => simp [intOf]; omega
      · have y1 := (HI.out.at_.at 32).trans X32.out
        have Hp := Lib.hid (Hple.out 107)
        go_wp2_with (first
          | (go_at_call 51; (with_reducible refine (HNz.out _).mono ?_); rintro r w1 ⟨p1, k1, c1, rfl, ho, hk, hB⟩; rw [← P107.out] at ho; have HI := Lib.hid (HI.out.next hB); have Hm := Lib.hid ho.rd; clear ho hk hB)
          | (refine wpList_append_bytes rfl _ _ 39 rfl hel rfl HI.out.own rfl Hm.out (sum_le2 Hl.out Hp.out Hkb.out) HI.out.size ?_
             intro p2 k2 c2 w2 hk2 ho hg2
             rw [← Hs1.out] at hk2 ho
             have HI := Lib.hid (HI.out.put hk2 ho hg2)
             clear hk2 ho hg2))
        go_roundw
        case rel => exact ⟨k + 1, _, _, _, hlt, by go_num, rfl, HI.out⟩
        case measure => simp [intOf]; omega
      · have y1 := (HI.out.at_.at 33).trans X33.out
        have Hp := Lib.hid (Hple.out 112)
        go_wp2_with (first
          | (go_at_call 52; (with_reducible refine (HNp.out _).mono ?_); rintro r w1 ⟨p1, k1, c1, rfl, ho, hk, hB⟩; rw [← P112.out] at ho; have HI := Lib.hid (HI.out.next hB); have Hm := Lib.hid ho.rd; clear ho hk hB)
          | (refine wpList_append_bytes rfl _ _ 39 rfl hel rfl HI.out.own rfl Hm.out (sum_le2 Hl.out Hp.out Hkb.out) HI.out.size ?_
             intro p2 k2 c2 w2 hk2 ho hg2
             rw [← Hs1.out] at hk2 ho
             have HI := Lib.hid (HI.out.put hk2 ho hg2)
             clear hk2 ho hg2))
        go_roundw
        case rel => exact ⟨k + 1, _, _, _, hlt, by go_num, rfl, HI.out⟩
        case measure => simp [intOf]; omega
      · have y1 := (HI.out.at_.at 34).trans X34.out
        have Hp := Lib.hid (Hple.out 113)
        go_wp2_with (first
          | (go_at_call 52; (with_reducible refine (HNq.out _).mono ?_); rintro r w1 ⟨p1, k1, c1, rfl, ho, hk, hB⟩; rw [← P113.out] at ho; have HI := Lib.hid (HI.out.next hB); have Hm := Lib.hid ho.rd; clear ho hk hB)
          | (refine wpList_append_bytes rfl _ _ 39 rfl hel rfl HI.out.own rfl Hm.out (sum_le2 Hl.out Hp.out Hkb.out) HI.out.size ?_
             intro p2 k2 c2 w2 hk2 ho hg2
             rw [← Hs1.out] at hk2 ho
             have HI := Lib.hid (HI.out.put hk2 ho hg2)
             clear hk2 ho hg2))
        go_roundw
        case rel => exact ⟨k + 1, _, _, _, hlt, by go_num, rfl, HI.out⟩
        case measure => simp [intOf]; omega
    · have hk' : k = f.length := by omega
      subst hk'
      go_wp2
      go_ret
      have hfin := HI.out
      rw [Hall.out] at hfin
      exact ⟨_, _, _, rfl, hfin.len, ownsRow_mono_base hfin.own (Nat.le_succ _), hfin.bel⟩
end Go.Proofs.Ytoflehlkacofjaa
