/- A command, read: plain, and what the walk carries; the closures. -/
import Derived.Test.YtoflehlkacofjaaQfB3
import Derived.Deep.MidRow
namespace Go.Proofs.Ytoflehlkacofjaa
open Go.ChangeShapes Go.WideShapes Go.ChangeAt Go.RowKit
set_option linter.unusedVariables false
namespace Sp
/-- The data that Take gives. -/
def got (b : List UInt8) (a : Nat) (e : Int) : Sp := if (taken b a e).mayB then taken b a e else zero
/-- The fault that it leaves. -/
def gotE (b : List UInt8) (a : Nat) (e : Int) : Int := if (taken b a e).mayB then (Form.rst b a e 25).2 else if (Form.rst b a e 25).2 = 0 then 5 else (Form.rst b a e 25).2
theorem got_cells (b : List UInt8) (a : Nat) (e : Int) : (if (taken b a e).mayB then (taken b a e).cells else zero.cells) = (got b a e).cells := by unfold got; split <;> rfl
theorem zero_ok : zero.ok := by
  have h0 : i64 0 := by unfold i64; decide
  exact ⟨by decide, by decide, h0, h0, h0, h0, fun _ => h0, h0, by decide, h0⟩
theorem got_ok (b : List UInt8) (a : Nat) (e : Int) : (got b a e).ok := by
  unfold got
  split
  · exact taken_ok b a e
  · exact zero_ok
end Sp
namespace Cm
/-- A command that is being read: it, the place, the fault. -/
abbrev St := Cm × Nat × Int
/-- A letter's field is read. -/
def rdL (b : List UInt8) (s : St) (c : UInt8) : St :=
  if c = 97 then ({ s.1 with account := (Form.small b s.2.1 s.2.2 4294967295).1 }, (Form.small b s.2.1 s.2.2 4294967295).2)
  else if c = 99 then ({ s.1 with contract := (Form.small b s.2.1 s.2.2 4294967295).1 }, (Form.small b s.2.1 s.2.2 4294967295).2)
  else if c = 110 then ({ s.1 with number := (Form.small b s.2.1 s.2.2 18446744073709551615).1 }, (Form.small b s.2.1 s.2.2 18446744073709551615).2)
  else if c = 109 then ({ s.1 with amount := Form.unfold_ (Form.small b s.2.1 s.2.2 18446744073709551615).1 }, (Form.small b s.2.1 s.2.2 18446744073709551615).2)
  else if c = 115 then ({ s.1 with spec := Sp.got b s.2.1 s.2.2 }, (Form.rst b s.2.1 s.2.2 25).1, Sp.gotE b s.2.1 s.2.2)
  else if c = 111 then ({ s.1 with on := (Form.flg b s.2.1 s.2.2).1 }, (Form.flg b s.2.1 s.2.2).2)
  else if c = 98 then ({ s.1 with buy := (Form.flg b s.2.1 s.2.2).1 }, (Form.flg b s.2.1 s.2.2).2)
  else if c = 107 then ({ s.1 with as_ := (Form.small b s.2.1 s.2.2 255).1 }, (Form.small b s.2.1 s.2.2 255).2)
  else if c = 112 then ({ s.1 with price := Form.unfold_ (Form.small b s.2.1 s.2.2 18446744073709551615).1 }, (Form.small b s.2.1 s.2.2 18446744073709551615).2)
  else if c = 113 then ({ s.1 with qty := Form.unfold_ (Form.small b s.2.1 s.2.2 18446744073709551615).1 }, (Form.small b s.2.1 s.2.2 18446744073709551615).2)
  else s
/-- A command of a kind, without more. -/
def start (k : Nat) : Cm := ⟨k, 0, 0, 0, 0, Sp.zero, false, false, 0, 0, 0⟩
theorem start_ok (k : Nat) (h : k < 256) : (start k).ok := by
  have h0 : Sp.i64 0 := by unfold Sp.i64; decide
  exact ⟨h, by show (0 : Nat) < 2 ^ 32; decide, by show (0 : Nat) < 2 ^ 32; decide, by show (0 : Nat) < 2 ^ 64; decide, h0, Sp.zero_ok, by show (0 : Nat) < 256; decide, h0, h0⟩
/-- What bytes are read as. -/
def rd0 (b : List UInt8) : St := (start (Form.small b 0 0 14).1, (Form.small b 0 0 14).2)
def rd (b : List UInt8) : St := (flds (Form.small b 0 0 14).1).foldl (rdL b) (rd0 b)
def rdOk (b : List UInt8) : Bool := decide (Form.done b.length (rd b).2.1 (rd b).2.2 = 0) && (rd b).1.mayB
end Cm
theorem small_at {b : List UInt8} {a : Nat} {e : Int} {most : Nat} (h : a ≤ b.length) : (Form.small b a e most).2.1 ≤ b.length := (Form.small_le (b := b) (a := a) (e := e) (most := most) rfl h).2.1
theorem small_top (b : List UInt8) (a : Nat) (e : Int) (most : Nat) : (Form.small b a e most).1 ≤ most := Form.small_most (b := b) (a := a) (e := e) (most := most) rfl
theorem flg_at {b : List UInt8} {a : Nat} {e : Int} (h : a ≤ b.length) : (Form.flg b a e).2.1 ≤ b.length := by
  unfold Form.flg
  split
  · exact h
  · cases hx : b[a]? with
    | none => exact h
    | some x =>
      simp only
      split
      · exact h
      · exact (List.getElem?_eq_some_iff.1 hx).1

/-- A command is being read out of bytes. -/
structure RC (w W : World) (v : Value) (b : List UInt8) (R V C : Nat) (s : Cm.St) : Prop where
  rd : Rdr W R v s.2.1 s.2.2
  bs : RdB W v b
  rv : W.heap[V]? = some (.cells #[.pointer (some ⟨R, 0, none⟩)] 70)
  c : CcAt W C s.1.cells
  rz : CcAt W w.heap.size zC
  off : ∀ y, w.heap.size ≤ y → Off v y
  ha : s.2.1 ≤ b.length
  hl : b.length ≤ 1000000
  ok : s.1.ok
  nRV : R ≠ V
  nRC : R ≠ C
  nVC : V ≠ C
  lR : w.heap.size < R
  lV : w.heap.size < V
  lC : w.heap.size < C
  below : Below w.heap.size w W
section
variable {w W W' : World} {v : Value} {b : List UInt8} {R V C : Nat} {s : Cm.St}
theorem RC.var (h : RC w W v b R V C s) : W.cell? ⟨V, 0, none⟩ = some (.pointer (some ⟨R, 0, none⟩)) := by rw [cell_of_row _ _ _ _ _ _ h.rv]; rfl
theorem RC.at (h : RC w W v b R V C s) (i : Nat) : W.cell? ⟨C, i, none⟩ = s.1.cells[i]? := h.c.at i
theorem RC.thaw (h : RC w W v b R V C s) (i : Nat) : W.frozen? ⟨C, i, none⟩ = false := by
  have hb := h.c
  unfold CcAt at hb
  simp [World.frozen?, hb]
theorem RC.offR (h : RC w W v b R V C s) : Off v R := h.off R (Nat.le_of_lt h.lR)
/-- The reader has moved. -/
theorem RC.moved (h : RC w W v b R V C s) {a : Nat} {e : Int} (hm : Moved W W' R v a e) (ha : a ≤ b.length) : RC w W' v b R V C (s.1, a, e) := by
  obtain ⟨h1, h2⟩ := hm
  have hk : ∀ B, B ≠ R → ∀ x, W.heap[B]? = some x → W'.heap[B]? = some x := fun B hB x hx => by
    rw [h2.block B (Array.getElem?_eq_some_iff.1 hx).1 (by simpa using hB)]; exact hx
  refine ⟨h1, h.bs.grown h2 h.offR, hk V (Ne.symm h.nRV) _ h.rv, hk C (Ne.symm h.nRC) _ h.c, hk _ (by have := h.lR; omega) _ h.rz, h.off, ha, h.hl, h.ok, h.nRV, h.nRC, h.nVC, h.lR, h.lV, h.lC, ?_⟩
  exact h.below.grown h2 h.below.size (fun k e => by cases e; exact Nat.le_of_lt h.lR)
/-- A cell of the command is laid. -/
theorem RC.set (h : RC w W v b R V C s) (i : Nat) (val : Value) (x : Cm) (hx : s.1.cells.setIfInBounds i val = x.cells) (ok : x.ok) : RC w (W.setCell ⟨C, i, none⟩ val) v b R V C (x, s.2) := by
  have hg := Lib.grownBy_setCell W C i val
  have hk : ∀ B, B ≠ C → ∀ x, W.heap[B]? = some x → (W.setCell ⟨C, i, none⟩ val).heap[B]? = some x := fun B hB x hx => by
    rw [hg.block B (Array.getElem?_eq_some_iff.1 hx).1 (by simpa using hB)]; exact hx
  refine ⟨hk R h.nRC _ h.rd, h.bs.grown hg (h.off C (Nat.le_of_lt h.lC)), hk V h.nVC _ h.rv, ?_, hk _ (by have := h.lC; omega) _ h.rz, h.off, h.ha, h.hl, ok, h.nRV, h.nRC, h.nVC, h.lR, h.lV, h.lC, ?_⟩
  · have hb := h.c
    unfold CcAt at *
    simp only [World.setCell, Array.getElem?_modify, hb, if_true, Option.map_some]
    rw [← hx]; rfl
  · exact h.below.grown hg h.below.size (fun k e => by cases e; exact Nat.le_of_lt h.lC)
theorem RC.same (h : RC w W v b R V C s) (hs : RegT.Same W W') : RC w W' v b R V C s := by
  have hh := hs.heap
  exact ⟨h.rd.same hs, h.bs.keeps (show Keeps W W' from fun k _ => by rw [hh]), by rw [hh]; exact h.rv, by unfold CcAt; rw [hh]; exact h.c, by unfold CcAt; rw [hh]; exact h.rz, h.off, h.ha, h.hl, h.ok, h.nRV, h.nRC, h.nVC, h.lR, h.lV, h.lC, h.below.trans hs.below⟩
theorem RC.keep (h : RC w W v b R V C s) (hB : Below W.heap.size W W') : RC w W' v b R V C s :=
  ⟨h.rd.keeps hB.block, h.bs.keeps (show Keeps W W' from hB.block), (hB.block _ (Array.getElem?_eq_some_iff.1 h.rv).1).trans h.rv, h.c.keeps hB.block, h.rz.keeps hB.block, h.off, h.ha, h.hl, h.ok, h.nRV, h.nRC, h.nVC, h.lR, h.lV, h.lC, h.below.trans (hB.mono h.below.size)⟩
/-- Numbers, flags, laid: by their letters. -/
theorem RC.nums (h : RC w W v b R V C s) {most n a' : Nat} {e' : Int} (hs : Form.small b s.2.1 s.2.2 most = (n, a', e')) (hm : Moved W W' R v a' e') : RC w W' v b R V C (s.1, a', e') :=
  h.moved hm (by have := small_at (e := s.2.2) (most := most) h.ha; rw [hs] at this; exact this)
theorem RC.flgs (h : RC w W v b R V C s) {f : Bool} {a' : Nat} {e' : Int} (hs : Form.flg b s.2.1 s.2.2 = (f, a', e')) (hm : Moved W W' R v a' e') : RC w W' v b R V C (s.1, a', e') :=
  h.moved hm (by have := flg_at (e := s.2.2) h.ha; rw [hs] at this; exact this)
end
section
variable {w W W' : World} {v : Value} {b : List UInt8} {R V C : Nat} {s : Cm.St} {n a' : Nat} {e' : Int} {f : Bool}
theorem small_le2 {most : Nat} (hs : Form.small b s.2.1 s.2.2 most = (n, a', e')) : n ≤ most := by have := small_top b s.2.1 s.2.2 most; rw [hs] at this; exact this
theorem RC.l97 (h : RC w W v b R V C s) (hs : Form.small b s.2.1 s.2.2 4294967295 = (n, a', e')) (hm : Moved W W' R v a' e') : RC w (W'.setCell ⟨C, 1, none⟩ (.int .u32 (n : Int))) v b R V C (Cm.rdL b s 97) := by
  have h2 := (h.nums hs hm).set 1 (.int .u32 (n : Int)) { s.1 with account := n } rfl ⟨h.ok.kind, by have := small_le2 hs; show n < 2 ^ 32; omega, h.ok.contract, h.ok.number, h.ok.amount, h.ok.spec, h.ok.as_, h.ok.price, h.ok.qty⟩
  have e : Cm.rdL b s 97 = ({ s.1 with account := n }, a', e') := by unfold Cm.rdL; rw [if_pos rfl, hs]
  rw [e]; exact h2
theorem RC.l99 (h : RC w W v b R V C s) (hs : Form.small b s.2.1 s.2.2 4294967295 = (n, a', e')) (hm : Moved W W' R v a' e') : RC w (W'.setCell ⟨C, 2, none⟩ (.int .u32 (n : Int))) v b R V C (Cm.rdL b s 99) := by
  have h2 := (h.nums hs hm).set 2 (.int .u32 (n : Int)) { s.1 with contract := n } rfl ⟨h.ok.kind, h.ok.account, by have := small_le2 hs; show n < 2 ^ 32; omega, h.ok.number, h.ok.amount, h.ok.spec, h.ok.as_, h.ok.price, h.ok.qty⟩
  have e : Cm.rdL b s 99 = ({ s.1 with contract := n }, a', e') := by unfold Cm.rdL; rw [if_neg (by decide), if_pos rfl, hs]
  rw [e]; exact h2
theorem RC.l110 (h : RC w W v b R V C s) (hs : Form.small b s.2.1 s.2.2 18446744073709551615 = (n, a', e')) (hm : Moved W W' R v a' e') : RC w (W'.setCell ⟨C, 3, none⟩ (.int .u64 (n : Int))) v b R V C (Cm.rdL b s 110) := by
  have h2 := (h.nums hs hm).set 3 (.int .u64 (n : Int)) { s.1 with number := n } rfl ⟨h.ok.kind, h.ok.account, h.ok.contract, by have := small_le2 hs; show n < 2 ^ 64; omega, h.ok.amount, h.ok.spec, h.ok.as_, h.ok.price, h.ok.qty⟩
  have e : Cm.rdL b s 110 = ({ s.1 with number := n }, a', e') := by unfold Cm.rdL; rw [if_neg (by decide), if_neg (by decide), if_pos rfl, hs]
  rw [e]; exact h2
theorem unf_ok (hs : Form.small b s.2.1 s.2.2 18446744073709551615 = (n, a', e')) : Sp.i64 (Form.unfold_ n) := Form.unfold_bd _ (by have := small_le2 hs; omega)
theorem RC.l109 (h : RC w W v b R V C s) (hs : Form.small b s.2.1 s.2.2 18446744073709551615 = (n, a', e')) (hm : Moved W W' R v a' e') : RC w (W'.setCell ⟨C, 4, none⟩ (.int .i64 (Form.unfold_ n))) v b R V C (Cm.rdL b s 109) := by
  have h2 := (h.nums hs hm).set 4 (.int .i64 (Form.unfold_ n)) { s.1 with amount := Form.unfold_ n } rfl ⟨h.ok.kind, h.ok.account, h.ok.contract, h.ok.number, unf_ok hs, h.ok.spec, h.ok.as_, h.ok.price, h.ok.qty⟩
  have e : Cm.rdL b s 109 = ({ s.1 with amount := Form.unfold_ n }, a', e') := by unfold Cm.rdL; rw [if_neg (by decide), if_neg (by decide), if_neg (by decide), if_pos rfl, hs]
  rw [e]; exact h2
theorem RC.l111 (h : RC w W v b R V C s) (hs : Form.flg b s.2.1 s.2.2 = (f, a', e')) (hm : Moved W W' R v a' e') : RC w (W'.setCell ⟨C, 30, none⟩ (.bool f)) v b R V C (Cm.rdL b s 111) := by
  have h2 := (h.flgs hs hm).set 30 (.bool f) { s.1 with on := f } rfl ⟨h.ok.kind, h.ok.account, h.ok.contract, h.ok.number, h.ok.amount, h.ok.spec, h.ok.as_, h.ok.price, h.ok.qty⟩
  have e : Cm.rdL b s 111 = ({ s.1 with on := f }, a', e') := by unfold Cm.rdL; rw [if_neg (by decide), if_neg (by decide), if_neg (by decide), if_neg (by decide), if_neg (by decide), if_pos rfl, hs]
  rw [e]; exact h2
theorem RC.l98 (h : RC w W v b R V C s) (hs : Form.flg b s.2.1 s.2.2 = (f, a', e')) (hm : Moved W W' R v a' e') : RC w (W'.setCell ⟨C, 31, none⟩ (.bool f)) v b R V C (Cm.rdL b s 98) := by
  have h2 := (h.flgs hs hm).set 31 (.bool f) { s.1 with buy := f } rfl ⟨h.ok.kind, h.ok.account, h.ok.contract, h.ok.number, h.ok.amount, h.ok.spec, h.ok.as_, h.ok.price, h.ok.qty⟩
  have e : Cm.rdL b s 98 = ({ s.1 with buy := f }, a', e') := by unfold Cm.rdL; rw [if_neg (by decide), if_neg (by decide), if_neg (by decide), if_neg (by decide), if_neg (by decide), if_neg (by decide), if_pos rfl, hs]
  rw [e]; exact h2
theorem RC.l107 (h : RC w W v b R V C s) (hs : Form.small b s.2.1 s.2.2 255 = (n, a', e')) (hm : Moved W W' R v a' e') : RC w (W'.setCell ⟨C, 32, none⟩ (.int .u8 (n : Int))) v b R V C (Cm.rdL b s 107) := by
  have h2 := (h.nums hs hm).set 32 (.int .u8 (n : Int)) { s.1 with as_ := n } rfl ⟨h.ok.kind, h.ok.account, h.ok.contract, h.ok.number, h.ok.amount, h.ok.spec, by have := small_le2 hs; show n < 256; omega, h.ok.price, h.ok.qty⟩
  have e : Cm.rdL b s 107 = ({ s.1 with as_ := n }, a', e') := by unfold Cm.rdL; rw [if_neg (by decide), if_neg (by decide), if_neg (by decide), if_neg (by decide), if_neg (by decide), if_neg (by decide), if_neg (by decide), if_pos rfl, hs]
  rw [e]; exact h2
theorem RC.l112 (h : RC w W v b R V C s) (hs : Form.small b s.2.1 s.2.2 18446744073709551615 = (n, a', e')) (hm : Moved W W' R v a' e') : RC w (W'.setCell ⟨C, 33, none⟩ (.int .i64 (Form.unfold_ n))) v b R V C (Cm.rdL b s 112) := by
  have h2 := (h.nums hs hm).set 33 (.int .i64 (Form.unfold_ n)) { s.1 with price := Form.unfold_ n } rfl ⟨h.ok.kind, h.ok.account, h.ok.contract, h.ok.number, h.ok.amount, h.ok.spec, h.ok.as_, unf_ok hs, h.ok.qty⟩
  have e : Cm.rdL b s 112 = ({ s.1 with price := Form.unfold_ n }, a', e') := by unfold Cm.rdL; rw [if_neg (by decide), if_neg (by decide), if_neg (by decide), if_neg (by decide), if_neg (by decide), if_neg (by decide), if_neg (by decide), if_neg (by decide), if_pos rfl, hs]
  rw [e]; exact h2
/-- The data, laid. -/
theorem CcAt.puts {B : Nat} : ∀ (vs : List Value) (i : Nat) {W : World} {cs : Array Value}, CcAt W B cs → CcAt (W.setCells B i vs) B (putsA cs i vs)
  | [], _, _, _, h => h
  | v :: vs, i, W, cs, h => by
    refine CcAt.puts vs (i + 1) (W := W.setCell ⟨B, i, none⟩ v) ?_
    unfold CcAt at *
    simp only [World.setCell, Array.getElem?_modify, h, if_true, Option.map_some]
    rfl
theorem put_spec (k a n u : Nat) (m : Int) (s t : Sp) (o b : Bool) (z : Nat) (p q : Int) : putsA (cmc k a n u m s o b z p q) 5 t.cells.toList = cmc k a n u m t o b z p q := arr_of_list (by rw [putsA_list _ _ _ (show 5 + t.cells.toList.length ≤ 35 by rw [show t.cells.toList.length = 25 from rfl]; decide)]; rfl)
theorem grown_setCells (B : Nat) : ∀ (vs : List Value) (i : Nat) (W : World), W.grownBy (W.setCells B i vs) (some B)
  | [], _, _ => World.grownBy.refl _ _
  | v :: vs, i, W => (Lib.grownBy_setCell W B i v).trans (grown_setCells B vs (i + 1) (W.setCell ⟨B, i, none⟩ v))
theorem RC.l115 (h : RC w W v b R V C s) (hm : Moved W W' R v (Form.rst b s.2.1 s.2.2 25).1 (Sp.gotE b s.2.1 s.2.2)) : RC w (W'.setCells C 5 (Sp.got b s.2.1 s.2.2).cells.toList) v b R V C (Cm.rdL b s 115) := by
  have h1 := h.moved hm (Form.rst_le b s.2.1 s.2.2 h.ha 25)
  have hg := grown_setCells C (Sp.got b s.2.1 s.2.2).cells.toList 5 W'
  have hk : ∀ B, B ≠ C → ∀ x, W'.heap[B]? = some x → (W'.setCells C 5 (Sp.got b s.2.1 s.2.2).cells.toList).heap[B]? = some x := fun B hB x hx => by
    rw [hg.block B (Array.getElem?_eq_some_iff.1 hx).1 (by simpa using hB)]; exact hx
  have e : Cm.rdL b s 115 = ({ s.1 with spec := Sp.got b s.2.1 s.2.2 }, (Form.rst b s.2.1 s.2.2 25).1, Sp.gotE b s.2.1 s.2.2) := by unfold Cm.rdL; rw [if_neg (by decide), if_neg (by decide), if_neg (by decide), if_neg (by decide), if_pos rfl]
  rw [e]
  refine ⟨hk R h1.nRC _ h1.rd, h1.bs.grown hg (h1.off C (Nat.le_of_lt h1.lC)), hk V h1.nVC _ h1.rv, ?_, hk _ (by have := h1.lC; omega) _ h1.rz, h1.off, h1.ha, h1.hl, ?_, h1.nRV, h1.nRC, h1.nVC, h1.lR, h1.lV, h1.lC, ?_⟩
  · have hc := CcAt.puts (Sp.got b s.2.1 s.2.2).cells.toList 5 h1.c
    have hp : putsA s.1.cells 5 (Sp.got b s.2.1 s.2.2).cells.toList = ({ s.1 with spec := Sp.got b s.2.1 s.2.2 } : Cm).cells := put_spec _ _ _ _ _ _ _ _ _ _ _ _
    rw [← hp]; exact hc
  · exact ⟨h.ok.kind, h.ok.account, h.ok.contract, h.ok.number, h.ok.amount, Sp.got_ok _ _ _, h.ok.as_, h.ok.price, h.ok.qty⟩
  · exact h1.below.grown hg h1.below.size (fun k e => by cases e; exact Nat.le_of_lt h1.lC)
theorem RC.l113 (h : RC w W v b R V C s) (hs : Form.small b s.2.1 s.2.2 18446744073709551615 = (n, a', e')) (hm : Moved W W' R v a' e') : RC w (W'.setCell ⟨C, 34, none⟩ (.int .i64 (Form.unfold_ n))) v b R V C (Cm.rdL b s 113) := by
  have h2 := (h.nums hs hm).set 34 (.int .i64 (Form.unfold_ n)) { s.1 with qty := Form.unfold_ n } rfl ⟨h.ok.kind, h.ok.account, h.ok.contract, h.ok.number, h.ok.amount, h.ok.spec, h.ok.as_, h.ok.price, unf_ok hs⟩
  have e : Cm.rdL b s 113 = ({ s.1 with qty := Form.unfold_ n }, a', e') := by unfold Cm.rdL; rw [if_neg (by decide), if_neg (by decide), if_neg (by decide), if_neg (by decide), if_neg (by decide), if_neg (by decide), if_neg (by decide), if_neg (by decide), if_neg (by decide), if_pos rfl, hs]
  rw [e]; exact h2
theorem RC.there (h : RC w W v b R V C s) (i n : Nat) (hi : i + n ≤ 35) : W.there C i n := fun j hj => by
  have hc := h.at (i + j)
  have hsz : s.1.cells.size = 35 := rfl
  rw [Array.getElem?_eq_getElem (by omega)] at hc
  exact ⟨by rw [hc]; rfl, h.thaw (i + j)⟩
end
set_option maxRecDepth 100000 in
theorem acct58_w {w W : World} {v : Value} {b : List UInt8} {R V C : Nat} {s : Cm.St} (h : RC w W v b R V C s) :
    Calls Try.prog 58 #[.pointer (some ⟨V, 0, none⟩), .pointer (some ⟨C, 0, none⟩)] W fun r W' => r = .returned (.tuple #[]) ∧ RC w W' v b R V C (Cm.rdL b s 97) := by
  have H := Lib.hid h
  have hv := h.var
  clear h
  go_enter Try.func58, Try.ntmps58
  go_wp2_with (go_at_call 42; (with_reducible refine (small_z R v b s.2.1 s.2.2 4294967295 4294967295 rfl W H.out.rd H.out.bs H.out.ha H.out.hl (by decide)).mono ?_); rintro r W1 ⟨n, a1, e1, hs, rfl, hm⟩
               have HL := Lib.hid (H.out.l97 hs hm)
               have H1 := Lib.hid (H.out.nums hs hm)
               have hn := small_le2 hs
               have hwn : IntKind.u32.wrap (n : Int) = (n : Int) := IntWalk.u32_in _ (by omega)
               have y1 := (H1.out.at 1).trans (show _ = some (Value.int .u32 (s.1.account : Int)) from rfl)
               have y2 := H1.out.thaw 1
               clear hs hm)
  go_end0
  exact ⟨rfl, HL.out⟩
set_option maxRecDepth 100000 in
theorem cont59_w {w W : World} {v : Value} {b : List UInt8} {R V C : Nat} {s : Cm.St} (h : RC w W v b R V C s) :
    Calls Try.prog 59 #[.pointer (some ⟨V, 0, none⟩), .pointer (some ⟨C, 0, none⟩)] W fun r W' => r = .returned (.tuple #[]) ∧ RC w W' v b R V C (Cm.rdL b s 99) := by
  have H := Lib.hid h
  have hv := h.var
  clear h
  go_enter Try.func59, Try.ntmps59
  go_wp2_with (go_at_call 42; (with_reducible refine (small_z R v b s.2.1 s.2.2 4294967295 4294967295 rfl W H.out.rd H.out.bs H.out.ha H.out.hl (by decide)).mono ?_); rintro r W1 ⟨n, a1, e1, hs, rfl, hm⟩
               have HL := Lib.hid (H.out.l99 hs hm)
               have H1 := Lib.hid (H.out.nums hs hm)
               have hn := small_le2 hs
               have hwn : IntKind.u32.wrap (n : Int) = (n : Int) := IntWalk.u32_in _ (by omega)
               have y1 := (H1.out.at 2).trans (show _ = some (Value.int .u32 (s.1.contract : Int)) from rfl)
               have y2 := H1.out.thaw 2
               clear hs hm)
  go_end0
  exact ⟨rfl, HL.out⟩
end Go.Proofs.Ytoflehlkacofjaa
