/- A command, read by the document: what the walk carries. -/
import Derived.Test.YtoflehlkacofjaaQfC14
namespace Go.Proofs.Ytoflehlkacofjaa
open Go.ChangeShapes Go.WideShapes Go.ChangeAt Go.RowKit
set_option linter.unusedVariables false
namespace Cm
/-- A letter's field is read. -/
def rdR (b : List UInt8) (s : St) (c : UInt8) : St := if c = 115 then ({ s.1 with spec := Sp.rgot b s.2.1 s.2.2 }, (Form.rst b s.2.1 s.2.2 25).1, Sp.gotE b s.2.1 s.2.2) else rdL b s c
theorem rdR_other (b : List UInt8) (s : St) (c : UInt8) (h : c ≠ 115) : rdR b s c = rdL b s c := by unfold rdR; rw [if_neg h]
theorem rdR_fold (b : List UInt8) : ∀ (l : List UInt8) (s : St), 115 ∉ l → l.foldl (rdR b) s = l.foldl (rdL b) s
  | [], _, _ => rfl
  | c :: l, s, h => by
    rw [List.foldl_cons, List.foldl_cons, rdR_other b s c (fun e => h (by rw [e]; exact List.mem_cons_self ..))]
    exact rdR_fold b l _ (fun hm => h (List.mem_cons_of_mem _ hm))
theorem rdR_spec (b : List UInt8) (s : St) : (rdR b s 115).2 = (rdL b s 115).2 ∧ ((rdR b s 115).2.2 = 0 → rdR b s 115 = rdL b s 115) := by
  have e : rdL b s 115 = ({ s.1 with spec := Sp.got b s.2.1 s.2.2 }, (Form.rst b s.2.1 s.2.2 25).1, Sp.gotE b s.2.1 s.2.2) := by unfold rdL; rw [if_neg (by decide), if_neg (by decide), if_neg (by decide), if_neg (by decide), if_pos rfl]
  have e2 : rdR b s 115 = ({ s.1 with spec := Sp.rgot b s.2.1 s.2.2 }, (Form.rst b s.2.1 s.2.2 25).1, Sp.gotE b s.2.1 s.2.2) := by unfold rdR; rw [if_pos rfl]
  rw [e, e2]
  refine ⟨rfl, fun h => ?_⟩
  rw [Sp.rgot_got b s.2.1 s.2.2 h]
/-- What the document reads. -/
def rr (b : List UInt8) : St := (flds (Form.small b 0 0 14).1).foldl (rdR b) (rd0 b)
theorem rr_rd (b : List UInt8) : (rr b).2 = (rd b).2 ∧ ((rr b).2.2 = 0 → rr b = rd b) := by
  unfold rr rd
  by_cases h : 115 ∈ flds (Form.small b 0 0 14).1
  · rw [spec_letter _ h]
    have e : flds 3 = [115] := rfl
    rw [e]
    exact rdR_spec b (rd0 b)
  · rw [rdR_fold b _ _ h]
    exact ⟨rfl, fun _ => rfl⟩
end Cm
/-- A command is being read out of bytes, by the document. -/
structure RF (w W : World) (b : List UInt8) (g N C : Nat) (s : Cm.St) : Prop where
  at_ : RAt W g 92 b s.2.1 s.2.2 N
  c : CcAt W C s.1.cells
  rz : CcAt W w.heap.size zC
  ha : s.2.1 ≤ b.length
  hl : b.length ≤ 1000000
  ok : s.1.ok
  nGC : g ≠ C
  hN : N ≤ w.heap.size
  lG : w.heap.size < g
  lC : w.heap.size < C
  below : Below w.heap.size w W
section
variable {w W W' : World} {b : List UInt8} {g N C : Nat} {s : Cm.St}
theorem RF.at (h : RF w W b g N C s) (i : Nat) : W.cell? ⟨C, i, none⟩ = s.1.cells[i]? := h.c.at i
theorem RF.thaw (h : RF w W b g N C s) (i : Nat) : W.frozen? ⟨C, i, none⟩ = false := by
  have hb := h.c
  unfold CcAt at hb
  simp [World.frozen?, hb]
theorem RF.hg (h : RF w W b g N C s) : N ≤ g := Nat.le_of_lt (Nat.lt_of_le_of_lt h.hN h.lG)
theorem RF.moved (h : RF w W b g N C s) {a : Nat} {e : Int} (hm : RM W W' g 92 b a e N) (ha : a ≤ b.length) : RF w W' b g N C (s.1, a, e) := by
  obtain ⟨h1, h2⟩ := hm
  have hk : ∀ B, B ≠ g → ∀ x, W.heap[B]? = some x → W'.heap[B]? = some x := fun B hB x hx => by
    rw [h2.block B (Array.getElem?_eq_some_iff.1 hx).1 (by simpa using hB)]; exact hx
  exact ⟨h1, hk C (Ne.symm h.nGC) _ h.c, hk _ (by have := h.lG; omega) _ h.rz, ha, h.hl, h.ok, h.nGC, h.hN, h.lG, h.lC, h.below.grown h2 h.below.size (fun k e => by cases e; exact Nat.le_of_lt h.lG)⟩
theorem RF.set (h : RF w W b g N C s) (i : Nat) (val : Value) (x : Cm) (hx : s.1.cells.setIfInBounds i val = x.cells) (ok : x.ok) : RF w (W.setCell ⟨C, i, none⟩ val) b g N C (x, s.2) := by
  have hg := Lib.grownBy_setCell W C i val
  have hk : ∀ B, B ≠ C → ∀ x, W.heap[B]? = some x → (W.setCell ⟨C, i, none⟩ val).heap[B]? = some x := fun B hB x hx => by
    rw [hg.block B (Array.getElem?_eq_some_iff.1 hx).1 (by simpa using hB)]; exact hx
  refine ⟨h.at_.kept hg (Nat.le_trans h.hN (Nat.le_of_lt h.lC)) h.nGC, ?_, hk _ (by have := h.lC; omega) _ h.rz, h.ha, h.hl, ok, h.nGC, h.hN, h.lG, h.lC, h.below.grown hg h.below.size (fun k e => by cases e; exact Nat.le_of_lt h.lC)⟩
  have hb := h.c
  unfold CcAt at *
  simp only [World.setCell, Array.getElem?_modify, hb, if_true, Option.map_some]
  rw [← hx]; rfl
theorem RF.keep (h : RF w W b g N C s) (hB : Below W.heap.size W W') : RF w W' b g N C s :=
  ⟨h.at_.keeps hB.block, h.c.keeps hB.block, h.rz.keeps hB.block, h.ha, h.hl, h.ok, h.nGC, h.hN, h.lG, h.lC, h.below.trans (hB.mono h.below.size)⟩
theorem RF.drew (h : RF w W b g N C s) : RF w W.drew b g N C s := ⟨h.at_.keeps (Keeps.refl W).drew, h.c, h.rz, h.ha, h.hl, h.ok, h.nGC, h.hN, h.lG, h.lC, h.below.drew⟩
theorem RF.nums (h : RF w W b g N C s) {most n a' : Nat} {e' : Int} (hs : Form.small b s.2.1 s.2.2 most = (n, a', e')) (hm : RM W W' g 92 b a' e' N) : RF w W' b g N C (s.1, a', e') :=
  h.moved hm (by have := small_at (e := s.2.2) (most := most) h.ha; rw [hs] at this; exact this)
theorem RF.flgs (h : RF w W b g N C s) {f : Bool} {a' : Nat} {e' : Int} (hs : Form.flg b s.2.1 s.2.2 = (f, a', e')) (hm : RM W W' g 92 b a' e' N) : RF w W' b g N C (s.1, a', e') :=
  h.moved hm (by have := flg_at (e := s.2.2) h.ha; rw [hs] at this; exact this)
end
section
variable {w W W' : World} {b : List UInt8} {g N C : Nat} {s : Cm.St} {n a' : Nat} {e' : Int} {f : Bool}
theorem RF.l97 (h : RF w W b g N C s) (hs : Form.small b s.2.1 s.2.2 4294967295 = (n, a', e')) (hm : RM W W' g 92 b a' e' N) : RF w (W'.setCell ⟨C, 1, none⟩ (.int .u32 (n : Int))) b g N C (Cm.rdR b s 97) := by
  have h2 := (h.nums hs hm).set 1 (.int .u32 (n : Int)) { s.1 with account := n } rfl ⟨h.ok.kind, by have := small_le2 hs; show n < 2 ^ 32; omega, h.ok.contract, h.ok.number, h.ok.amount, h.ok.spec, h.ok.as_, h.ok.price, h.ok.qty⟩
  have e : Cm.rdR b s 97 = ({ s.1 with account := n }, a', e') := by rw [Cm.rdR_other b s 97 (by decide)]; unfold Cm.rdL; rw [if_pos rfl, hs]
  rw [e]; exact h2
theorem RF.l99 (h : RF w W b g N C s) (hs : Form.small b s.2.1 s.2.2 4294967295 = (n, a', e')) (hm : RM W W' g 92 b a' e' N) : RF w (W'.setCell ⟨C, 2, none⟩ (.int .u32 (n : Int))) b g N C (Cm.rdR b s 99) := by
  have h2 := (h.nums hs hm).set 2 (.int .u32 (n : Int)) { s.1 with contract := n } rfl ⟨h.ok.kind, h.ok.account, by have := small_le2 hs; show n < 2 ^ 32; omega, h.ok.number, h.ok.amount, h.ok.spec, h.ok.as_, h.ok.price, h.ok.qty⟩
  have e : Cm.rdR b s 99 = ({ s.1 with contract := n }, a', e') := by rw [Cm.rdR_other b s 99 (by decide)]; unfold Cm.rdL; rw [if_neg (by decide), if_pos rfl, hs]
  rw [e]; exact h2
theorem RF.l110 (h : RF w W b g N C s) (hs : Form.small b s.2.1 s.2.2 18446744073709551615 = (n, a', e')) (hm : RM W W' g 92 b a' e' N) : RF w (W'.setCell ⟨C, 3, none⟩ (.int .u64 (n : Int))) b g N C (Cm.rdR b s 110) := by
  have h2 := (h.nums hs hm).set 3 (.int .u64 (n : Int)) { s.1 with number := n } rfl ⟨h.ok.kind, h.ok.account, h.ok.contract, by have := small_le2 hs; show n < 2 ^ 64; omega, h.ok.amount, h.ok.spec, h.ok.as_, h.ok.price, h.ok.qty⟩
  have e : Cm.rdR b s 110 = ({ s.1 with number := n }, a', e') := by rw [Cm.rdR_other b s 110 (by decide)]; unfold Cm.rdL; rw [if_neg (by decide), if_neg (by decide), if_pos rfl, hs]
  rw [e]; exact h2
theorem RF.l109 (h : RF w W b g N C s) (hs : Form.small b s.2.1 s.2.2 18446744073709551615 = (n, a', e')) (hm : RM W W' g 92 b a' e' N) : RF w (W'.setCell ⟨C, 4, none⟩ (.int .i64 (Form.unfold_ n))) b g N C (Cm.rdR b s 109) := by
  have h2 := (h.nums hs hm).set 4 (.int .i64 (Form.unfold_ n)) { s.1 with amount := Form.unfold_ n } rfl ⟨h.ok.kind, h.ok.account, h.ok.contract, h.ok.number, unf_ok hs, h.ok.spec, h.ok.as_, h.ok.price, h.ok.qty⟩
  have e : Cm.rdR b s 109 = ({ s.1 with amount := Form.unfold_ n }, a', e') := by rw [Cm.rdR_other b s 109 (by decide)]; unfold Cm.rdL; rw [if_neg (by decide), if_neg (by decide), if_neg (by decide), if_pos rfl, hs]
  rw [e]; exact h2
theorem RF.l111 (h : RF w W b g N C s) (hs : Form.flg b s.2.1 s.2.2 = (f, a', e')) (hm : RM W W' g 92 b a' e' N) : RF w (W'.setCell ⟨C, 30, none⟩ (.bool f)) b g N C (Cm.rdR b s 111) := by
  have h2 := (h.flgs hs hm).set 30 (.bool f) { s.1 with on := f } rfl ⟨h.ok.kind, h.ok.account, h.ok.contract, h.ok.number, h.ok.amount, h.ok.spec, h.ok.as_, h.ok.price, h.ok.qty⟩
  have e : Cm.rdR b s 111 = ({ s.1 with on := f }, a', e') := by rw [Cm.rdR_other b s 111 (by decide)]; unfold Cm.rdL; rw [if_neg (by decide), if_neg (by decide), if_neg (by decide), if_neg (by decide), if_neg (by decide), if_pos rfl, hs]
  rw [e]; exact h2
theorem RF.l98 (h : RF w W b g N C s) (hs : Form.flg b s.2.1 s.2.2 = (f, a', e')) (hm : RM W W' g 92 b a' e' N) : RF w (W'.setCell ⟨C, 31, none⟩ (.bool f)) b g N C (Cm.rdR b s 98) := by
  have h2 := (h.flgs hs hm).set 31 (.bool f) { s.1 with buy := f } rfl ⟨h.ok.kind, h.ok.account, h.ok.contract, h.ok.number, h.ok.amount, h.ok.spec, h.ok.as_, h.ok.price, h.ok.qty⟩
  have e : Cm.rdR b s 98 = ({ s.1 with buy := f }, a', e') := by rw [Cm.rdR_other b s 98 (by decide)]; unfold Cm.rdL; rw [if_neg (by decide), if_neg (by decide), if_neg (by decide), if_neg (by decide), if_neg (by decide), if_neg (by decide), if_pos rfl, hs]
  rw [e]; exact h2
theorem RF.l107 (h : RF w W b g N C s) (hs : Form.small b s.2.1 s.2.2 255 = (n, a', e')) (hm : RM W W' g 92 b a' e' N) : RF w (W'.setCell ⟨C, 32, none⟩ (.int .u8 (n : Int))) b g N C (Cm.rdR b s 107) := by
  have h2 := (h.nums hs hm).set 32 (.int .u8 (n : Int)) { s.1 with as_ := n } rfl ⟨h.ok.kind, h.ok.account, h.ok.contract, h.ok.number, h.ok.amount, h.ok.spec, by have := small_le2 hs; show n < 256; omega, h.ok.price, h.ok.qty⟩
  have e : Cm.rdR b s 107 = ({ s.1 with as_ := n }, a', e') := by rw [Cm.rdR_other b s 107 (by decide)]; unfold Cm.rdL; rw [if_neg (by decide), if_neg (by decide), if_neg (by decide), if_neg (by decide), if_neg (by decide), if_neg (by decide), if_neg (by decide), if_pos rfl, hs]
  rw [e]; exact h2
theorem RF.l112 (h : RF w W b g N C s) (hs : Form.small b s.2.1 s.2.2 18446744073709551615 = (n, a', e')) (hm : RM W W' g 92 b a' e' N) : RF w (W'.setCell ⟨C, 33, none⟩ (.int .i64 (Form.unfold_ n))) b g N C (Cm.rdR b s 112) := by
  have h2 := (h.nums hs hm).set 33 (.int .i64 (Form.unfold_ n)) { s.1 with price := Form.unfold_ n } rfl ⟨h.ok.kind, h.ok.account, h.ok.contract, h.ok.number, h.ok.amount, h.ok.spec, h.ok.as_, unf_ok hs, h.ok.qty⟩
  have e : Cm.rdR b s 112 = ({ s.1 with price := Form.unfold_ n }, a', e') := by rw [Cm.rdR_other b s 112 (by decide)]; unfold Cm.rdL; rw [if_neg (by decide), if_neg (by decide), if_neg (by decide), if_neg (by decide), if_neg (by decide), if_neg (by decide), if_neg (by decide), if_neg (by decide), if_pos rfl, hs]
  rw [e]; exact h2
theorem RF.l113 (h : RF w W b g N C s) (hs : Form.small b s.2.1 s.2.2 18446744073709551615 = (n, a', e')) (hm : RM W W' g 92 b a' e' N) : RF w (W'.setCell ⟨C, 34, none⟩ (.int .i64 (Form.unfold_ n))) b g N C (Cm.rdR b s 113) := by
  have h2 := (h.nums hs hm).set 34 (.int .i64 (Form.unfold_ n)) { s.1 with qty := Form.unfold_ n } rfl ⟨h.ok.kind, h.ok.account, h.ok.contract, h.ok.number, h.ok.amount, h.ok.spec, h.ok.as_, h.ok.price, unf_ok hs⟩
  have e : Cm.rdR b s 113 = ({ s.1 with qty := Form.unfold_ n }, a', e') := by rw [Cm.rdR_other b s 113 (by decide)]; unfold Cm.rdL; rw [if_neg (by decide), if_neg (by decide), if_neg (by decide), if_neg (by decide), if_neg (by decide), if_neg (by decide), if_neg (by decide), if_neg (by decide), if_neg (by decide), if_pos rfl, hs]
  rw [e]; exact h2
theorem RF.l115 (h : RF w W b g N C s) (hm : RM W W' g 92 b (Form.rst b s.2.1 s.2.2 25).1 (Sp.gotE b s.2.1 s.2.2) N) : RF w (W'.setCells C 5 (Sp.rgot b s.2.1 s.2.2).cells.toList) b g N C (Cm.rdR b s 115) := by
  have h1 := h.moved hm (Form.rst_le b s.2.1 s.2.2 h.ha 25)
  have hg := grown_setCells C (Sp.rgot b s.2.1 s.2.2).cells.toList 5 W'
  have hk : ∀ B, B ≠ C → ∀ x, W'.heap[B]? = some x → (W'.setCells C 5 (Sp.rgot b s.2.1 s.2.2).cells.toList).heap[B]? = some x := fun B hB x hx => by
    rw [hg.block B (Array.getElem?_eq_some_iff.1 hx).1 (by simpa using hB)]; exact hx
  have e : Cm.rdR b s 115 = ({ s.1 with spec := Sp.rgot b s.2.1 s.2.2 }, (Form.rst b s.2.1 s.2.2 25).1, Sp.gotE b s.2.1 s.2.2) := by unfold Cm.rdR; rw [if_pos rfl]
  rw [e]
  refine ⟨h1.at_.kept hg (Nat.le_trans h1.hN (Nat.le_of_lt h1.lC)) h1.nGC, ?_, hk _ (by have := h1.lC; omega) _ h1.rz, h1.ha, h1.hl, ?_, h1.nGC, h1.hN, h1.lG, h1.lC, ?_⟩
  · have h2 := CcAt.puts (Sp.rgot b s.2.1 s.2.2).cells.toList 5 h1.c
    have h3 : putsA s.1.cells 5 (Sp.rgot b s.2.1 s.2.2).cells.toList = ({ s.1 with spec := Sp.rgot b s.2.1 s.2.2 } : Cm).cells := put_spec ..
    rw [h3] at h2
    exact h2
  · exact ⟨h.ok.kind, h.ok.account, h.ok.contract, h.ok.number, h.ok.amount, Sp.rgot_ok b s.2.1 s.2.2, h.ok.as_, h.ok.price, h.ok.qty⟩
  · exact h1.below.grown hg h1.below.size (fun k e => by cases e; exact Nat.le_of_lt h1.lC)
theorem RF.result (h : RF w W b g N C s) (ds : Array Value) : Below w.heap.size w (W.setRow w.heap.size ds) ∧ (W.setRow w.heap.size ds).heap[w.heap.size]? = some (.cells ds 30) := by
  have h1 : Below w.heap.size W (W.setRow w.heap.size ds) := ⟨rfl, rfl, rfl, by simp [World.setRow], fun k hk => setRow_other _ _ _ _ (by omega)⟩
  exact ⟨h.below.trans h1, setRow_heap _ _ _ _ _ _ h.rz⟩
end
end Go.Proofs.Ytoflehlkacofjaa
