/- A command, read: the closure of two numbers. -/
import Derived.Test.YtoflehlkacofjaaQdB4
namespace Go.Proofs.Ytoflehlkacofjaa
open Go.ChangeShapes Go.WideShapes Go.ChangeAt Go.RowKit
set_option linter.unusedVariables false
theorem RC.l2 {w W : World} {v : Value} {b : List UInt8} {R V C : Nat} {s : Cm.St} {n a1 n2 a2 : Nat} {e1 e2 : Int} (h1 : Form.small b s.2.1 s.2.2 18446744073709551615 = (n, a1, e1)) (h2 : Form.small b a1 e1 18446744073709551615 = (n2, a2, e2)) (h : RC w W v b R V C (s.1, a2, e2)) :
    RC w ((W.setCell ⟨C, 33, none⟩ (.int .i64 (Form.unfold_ n))).setCell ⟨C, 34, none⟩ (.int .i64 (Form.unfold_ n2))) v b R V C (Cm.rdL b (Cm.rdL b s 112) 113) := by
  have e : Cm.rdL b s 112 = ({ s.1 with price := Form.unfold_ n }, a1, e1) := by unfold Cm.rdL; rw [if_neg (by decide), if_neg (by decide), if_neg (by decide), if_neg (by decide), if_neg (by decide), if_neg (by decide), if_neg (by decide), if_neg (by decide), if_pos rfl, h1]
  have e' : Cm.rdL b ({ s.1 with price := Form.unfold_ n }, a1, e1) 113 = ({ s.1 with price := Form.unfold_ n, qty := Form.unfold_ n2 }, a2, e2) := by
    unfold Cm.rdL
    rw [if_neg (by decide), if_neg (by decide), if_neg (by decide), if_neg (by decide), if_neg (by decide), if_neg (by decide), if_neg (by decide), if_neg (by decide), if_neg (by decide), if_pos rfl]
    show ({ s.1 with price := Form.unfold_ n, qty := Form.unfold_ (Form.small b a1 e1 18446744073709551615).1 }, (Form.small b a1 e1 18446744073709551615).2) = _
    rw [h2]
  rw [e, e']
  have k1 := unf_ok h1
  have k2 : Sp.i64 (Form.unfold_ n2) := unf_ok (s := (s.1, a1, e1)) h2
  have g1 := h.set 33 (.int .i64 (Form.unfold_ n)) { s.1 with price := Form.unfold_ n } rfl ⟨h.ok.kind, h.ok.account, h.ok.contract, h.ok.number, h.ok.amount, h.ok.spec, h.ok.as_, k1, h.ok.qty⟩
  exact g1.set 34 (.int .i64 (Form.unfold_ n2)) { s.1 with price := Form.unfold_ n, qty := Form.unfold_ n2 } rfl ⟨h.ok.kind, h.ok.account, h.ok.contract, h.ok.number, h.ok.amount, h.ok.spec, h.ok.as_, k1, k2⟩
end Go.Proofs.Ytoflehlkacofjaa
