/- A command, read: the closure of two numbers. -/
import Derived.Test.YtoflehlkacofjaaQfB4
namespace Go.Proofs.Ytoflehlkacofjaa
open Go.ChangeShapes Go.WideShapes Go.ChangeAt Go.RowKit
set_option linter.unusedVariables false
theorem RC.l2 {w W : World} {v : Value} {b : List UInt8} {R V C : Nat} {s : Cm.St} {n a1 n2 a2 : Nat} {e1 e2 : Int} (h1 : Form.small b s.2.1 s.2.2 18446744073709551615 = (n, a1, e1)) (h2 : Form.small b a1 e1 18446744073709551615 = (n2, a2, e2)) (h : RC w W v b R V C (s.1, a2, e2)) :
    RC w ((W.setCell ⟨C, 33, none⟩ (.int .i64 (Form.unfold_ n))).setCell ⟨C, 34, none⟩ (.int .i64 (Form.unfold_ n2))) v b R V C (Cm.rdL b (Cm.rdL b s 112) 113) := by
  have e : Cm.rdL b s 112 = ({ s.1 with price := Form.unfold_ n }, a1, e1) := by unfold Cm.rdL; rw [if_neg (by decide), if_neg (by decide), if_neg (by decide), if_neg (by decide), if_neg (by decide), if_neg (by decide), if_neg (by decide), if_neg (by decide), if_pos rfl, h1]
  have e' : Cm.rdL b ({ s.1 with price := Form.unfold_ n }, a1, e1) 113 = ({ s.1 with price := Form.unfold_ n, qty := Form.unfold_ n2 }, a2, e2) := by
    unfold Cm.rdL
    rw [if_neg (by decide), if_neg (by decide), if_neg (by decide), if_neg (by decide), if_neg (by decide), if_neg (by decide), if_neg (by decide), if_neg (by decide), if_neg (by decide), if_pos rfl]
    show ({ s.1 with price := Form.unfold_ n, qty := Form.unfold_ (Form.small b a1 e1 18446744073709551615).1 }, (Form.small b a1 e1 18446744073709551615).2) = _
    rw [h2]
  rw [e, e']
  have k1 := unf_ok h1
  have k2 : Sp.i64 (Form.unfold_ n2) := unf_ok (s := (s.1, a1, e1)) h2
  have g1 := h.set 33 (.int .i64 (Form.unfold_ n)) { s.1 with price := Form.unfold_ n } rfl ⟨h.ok.kind, h.ok.account, h.ok.contract, h.ok.number, h.ok.amount, h.ok.spec, h.ok.as_, k1, h.ok.qty⟩
  exact g1.set 34 (.int .i64 (Form.unfold_ n2)) { s.1 with price := Form.unfold_ n, qty := Form.unfold_ n2 } rfl ⟨h.ok.kind, h.ok.account, h.ok.contract, h.ok.number, h.ok.amount, h.ok.spec, h.ok.as_, k1, k2⟩
set_option maxRecDepth 100000 in
set_option maxHeartbeats 1600000 in
theorem rest60_w {w W : World} {v : Value} {b : List UInt8} {R V C : Nat} {s : Cm.St} (h : RC w W v b R V C s) :
    Calls Try.prog 60 #[.pointer (some ⟨V, 0, none⟩), .pointer (some ⟨C, 0, none⟩)] W fun r W' => r = .returned (.tuple #[]) ∧ RC w W' v b R V C (Cm.rdL b (Cm.rdL b s 112) 113) := by
  have H := Lib.hid (show RC w W.drew v b R V C s from ⟨h.rd, h.bs.keeps (Keeps.refl W).drew, h.rv, h.c, h.rz, h.off, h.ha, h.hl, h.ok, h.nRV, h.nRC, h.nVC, h.lR, h.lV, h.lC, h.below.drew⟩)
  have hv := H.out.var
  clear h
  go_enter Try.func60, Try.ntmps60
  go_region_held3 (fun w' => w'.cell? ⟨V, 0, none⟩ = some (.pointer (some ⟨R, 0, none⟩))) (go_keep) ((go_at_call 44; first
    | ((with_reducible refine (rint_w R v b s.2.1 s.2.2 W.drew H.out.rd H.out.bs H.out.ha H.out.hl).mono ?_); rintro r W1 ⟨n, a1, e1, hs, rfl, hm⟩
       have HS1 := Lib.hid hs
       have HM1 := Lib.hid hm
       have H1 := Lib.hid (H.out.nums hs hm)
       have v1 := H1.out.var
       clear hs hm)
    | ((with_reducible refine (rint_w R v b a1 e1 W1 H1.out.rd H1.out.bs H1.out.ha H1.out.hl).mono ?_); rintro r W2 ⟨n2, a2, e2, hs, rfl, hm⟩
       have HS2 := Lib.hid hs
       have HM2 := Lib.hid hm
       have H2 := Lib.hid (H1.out.nums hs hm)
       have v2 := H2.out.var
       have y33 := (H2.out.at 33).trans (show _ = some (Value.int .i64 s.1.price) from rfl)
       have y34 := (H2.out.at 34).trans (show _ = some (Value.int .i64 s.1.qty) from rfl)
       have z33 := H2.out.thaw 33
       have z34 := H2.out.thaw 34
       have hne := H2.out.nVC
       have hne' := Ne.symm H2.out.nVC
       clear hs hm)))
  go_end0
  exact ⟨rfl, RC.l2 HS1.out HS2.out H2.out⟩
end Go.Proofs.Ytoflehlkacofjaa
