/- The law WordsReplies: its walks joined. -/
import Derived.Test.YtoflehlkacofjaaQfC10
namespace Go.Proofs.Ytoflehlkacofjaa
open Go.ChangeShapes Go.WideShapes Go.ChangeAt Go.RowKit
set_option linter.unusedVariables false
theorem Rp.form_len {x : Rp} (hx : x.ok) (hm : x.mayB = true) : x.form.length ≤ 300000 := by
  obtain ⟨m1, m2, m3, m4, m5⟩ := mayR_open hm
  unfold Rp.form natsT natsN
  by_cases h0 : x.errno = 0
  · rw [if_pos h0]
    have n3 : (Form.nat x.trades.length).length ≤ 10 := Form.nat_len10 (by omega)
    have n4 : (Form.nat x.gone.length).length ≤ 10 := Form.nat_len10 (by omega)
    have n5 : (Form.nat x.accounts.length).length ≤ 10 := Form.nat_len10 (by omega)
    have n0 : (Form.nat 0).length ≤ 10 := Form.nat_len10 (by decide)
    have n1 := Form.nat_len10 hx.number
    have n2 := Form.nat_len10 (Form.fold_lt hx.filled.1 hx.filled.2)
    have n2' := Form.nat_len10 (Form.fold_lt hx.left.1 hx.left.2)
    have t1 := flatT_len x.trades hx.trades
    have t2 := flatN_len x.gone hx.gone
    have t3 := flatN_len x.accounts (fun n hn => by have := hx.accounts n hn; omega)
    simp only [List.length_append]; omega
  · rw [if_neg h0]
    have : (Form.nat x.errno.toNat).length ≤ 10 := Form.nat_len10 (by omega)
    omega
end Go.Proofs.Ytoflehlkacofjaa
