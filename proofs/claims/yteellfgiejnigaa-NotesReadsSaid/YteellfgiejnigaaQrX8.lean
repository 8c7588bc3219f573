/- The document's Read: its walks joined. -/
import Derived.Test.YteellfgiejnigaaQrX7a
import Derived.Test.YteellfgiejnigaaQrX7b
import Derived.Test.YteellfgiejnigaaQrX7c
import Derived.Test.YteellfgiejnigaaQrX7d
import Derived.Test.YteellfgiejnigaaQrX7e
import Derived.Test.YteellfgiejnigaaQrX7f
import Derived.Test.YteellfgiejnigaaQrX7g
import Derived.Test.YteellfgiejnigaaQrX7h
namespace Go.Proofs.Yteellfgiejnigaa
open Go.ChangeShapes Go.WideShapes Go.ChangeAt Go.RowKit
set_option linter.unusedVariables false
theorem Rd.nf_true {b : List UInt8} {s : Rd.St} {q : Nat × Rd.St} (h : Form.small b s.1 s.2 18446744073709551615 = q) : Rd.nf b true s = q := by unfold Rd.nf; rw [if_pos rfl]; exact h
theorem Rd.nf_false (b : List UInt8) (s : Rd.St) : Rd.nf b false s = (0, s) := by unfold Rd.nf; rw [if_neg (by decide)]
theorem Rd.form_of {b : List UInt8} {x : Nt} {s : Rd.St} (hx : Rd.taken b = x) (hs : (Rd.sR b).2 = s) (h : Form.done b.length s.1 s.2 = 0) : formN x = b := by
  subst hx hs; exact Rd.taken_form b h
theorem Rd.fine_of {b : List UInt8} {x : Nt} {s : Rd.St} (hx : Rd.taken b = x) (hs : (Rd.sR b).2 = s) : Rd.fine b = (decide (Form.done b.length s.1 s.2 = 0) && mayN x) := by
  subst hx hs; rfl
theorem read44_0_w (v : Value) (b : List UInt8) (w : World) (hb : RdB w v b) (hl : b.length ≤ 1000000) (hk : (Rd.sK b).1 = 0) : Calls Try.prog 44 #[v] w (ReadP w (Rd.taken b) (Rd.fine b)) := by
  have hK : Form.small b 0 0 7 = (0, (Rd.sK b).2) := Prod.ext hk rfl
  have hT : Form.small b (Rd.sK b).2.1 (Rd.sK b).2.2 18446744073709551615 = ((Rd.sT b).1, (Rd.sT b).2) := rfl
  have n0 : Rd.ns b (Rd.flags 0) (Rd.sT b).2 0 = (Rd.sT b).2 := rfl
  have q0 : Rd.nf b (Rd.flags 0 0) (Rd.ns b (Rd.flags 0) (Rd.sT b).2 0) = (0, (Rd.sT b).2) := by rw [n0]; exact Rd.nf_false _ _
  have n1 : Rd.ns b (Rd.flags 0) (Rd.sT b).2 1 = (Rd.sT b).2 := by have h := congrArg Prod.snd q0; exact h
  have v0 : Rd.vN b 0 = 0 := by unfold Rd.vN Rd.nv; rw [hk, q0]
  have q1 : Rd.nf b (Rd.flags 0 1) (Rd.ns b (Rd.flags 0) (Rd.sT b).2 1) = (0, (Rd.sT b).2) := by rw [n1]; exact Rd.nf_false _ _
  have n2 : Rd.ns b (Rd.flags 0) (Rd.sT b).2 2 = (Rd.sT b).2 := by have h := congrArg Prod.snd q1; exact h
  have v1 : Rd.vN b 1 = 0 := by unfold Rd.vN Rd.nv; rw [hk, q1]
  have q2 : Rd.nf b (Rd.flags 0 2) (Rd.ns b (Rd.flags 0) (Rd.sT b).2 2) = (0, (Rd.sT b).2) := by rw [n2]; exact Rd.nf_false _ _
  have n3 : Rd.ns b (Rd.flags 0) (Rd.sT b).2 3 = (Rd.sT b).2 := by have h := congrArg Prod.snd q2; exact h
  have v2 : Rd.vN b 2 = 0 := by unfold Rd.vN Rd.nv; rw [hk, q2]
  have q3 : Rd.nf b (Rd.flags 0 3) (Rd.ns b (Rd.flags 0) (Rd.sT b).2 3) = (0, (Rd.sT b).2) := by rw [n3]; exact Rd.nf_false _ _
  have n4 : Rd.ns b (Rd.flags 0) (Rd.sT b).2 4 = (Rd.sT b).2 := by have h := congrArg Prod.snd q3; exact h
  have v3 : Rd.vN b 3 = 0 := by unfold Rd.vN Rd.nv; rw [hk, q3]
  have h4 : Rd.s4 b = (Rd.sT b).2 := by unfold Rd.s4; rw [hk]; exact n4
  have hsR : Rd.sR b = Rd.rest b (hasY 0) (hasL 0) (hasD 0) (Rd.s4 b) := by unfold Rd.sR; rw [hk]
  rw [h4] at hsR
  have hR5 : Rd.sR b = ((false, [], []), (Rd.sT b).2) := hsR.trans (Rd.rest_n b _)
  have hx : Rd.taken b = ⟨0, (Rd.sT b).1, 0, 0, 0, 0, false, [], []⟩ := by rw [(Rd.of_rest hR5).1, hk, v0, v1, v2, v3]
  have hs : (Rd.sR b).2 = (Rd.sT b).2 := congrArg Prod.snd hR5
  have hf := Rd.form_of hx hs
  rw [Rd.fine_of hx hs, hx]
  exact rread_0_w _ _ _ v b w hb hl hK hT hf
theorem read44_1_w (v : Value) (b : List UInt8) (w : World) (hb : RdB w v b) (hl : b.length ≤ 1000000) (hk : (Rd.sK b).1 = 1) : Calls Try.prog 44 #[v] w (ReadP w (Rd.taken b) (Rd.fine b)) := by
  have hK : Form.small b 0 0 7 = (1, (Rd.sK b).2) := Prod.ext hk rfl
  have hT : Form.small b (Rd.sK b).2.1 (Rd.sK b).2.2 18446744073709551615 = ((Rd.sT b).1, (Rd.sT b).2) := rfl
  have n0 : Rd.ns b (Rd.flags 1) (Rd.sT b).2 0 = (Rd.sT b).2 := rfl
  obtain ⟨r, sR, hR⟩ : ∃ n s, Form.small b (Rd.sT b).2.1 (Rd.sT b).2.2 18446744073709551615 = (n, s) := ⟨_, _, rfl⟩
  have q0 : Rd.nf b (Rd.flags 1 0) (Rd.ns b (Rd.flags 1) (Rd.sT b).2 0) = (r, sR) := by rw [n0]; exact Rd.nf_true hR
  have n1 : Rd.ns b (Rd.flags 1) (Rd.sT b).2 1 = sR := by have h := congrArg Prod.snd q0; exact h
  have v0 : Rd.vN b 0 = r := by unfold Rd.vN Rd.nv; rw [hk, q0]
  obtain ⟨i, sI, hI⟩ : ∃ n s, Form.small b sR.1 sR.2 18446744073709551615 = (n, s) := ⟨_, _, rfl⟩
  have q1 : Rd.nf b (Rd.flags 1 1) (Rd.ns b (Rd.flags 1) (Rd.sT b).2 1) = (i, sI) := by rw [n1]; exact Rd.nf_true hI
  have n2 : Rd.ns b (Rd.flags 1) (Rd.sT b).2 2 = sI := by have h := congrArg Prod.snd q1; exact h
  have v1 : Rd.vN b 1 = i := by unfold Rd.vN Rd.nv; rw [hk, q1]
  obtain ⟨a, sA, hA⟩ : ∃ n s, Form.small b sI.1 sI.2 18446744073709551615 = (n, s) := ⟨_, _, rfl⟩
  have q2 : Rd.nf b (Rd.flags 1 2) (Rd.ns b (Rd.flags 1) (Rd.sT b).2 2) = (a, sA) := by rw [n2]; exact Rd.nf_true hA
  have n3 : Rd.ns b (Rd.flags 1) (Rd.sT b).2 3 = sA := by have h := congrArg Prod.snd q2; exact h
  have v2 : Rd.vN b 2 = a := by unfold Rd.vN Rd.nv; rw [hk, q2]
  have q3 : Rd.nf b (Rd.flags 1 3) (Rd.ns b (Rd.flags 1) (Rd.sT b).2 3) = (0, sA) := by rw [n3]; exact Rd.nf_false _ _
  have n4 : Rd.ns b (Rd.flags 1) (Rd.sT b).2 4 = sA := by have h := congrArg Prod.snd q3; exact h
  have v3 : Rd.vN b 3 = 0 := by unfold Rd.vN Rd.nv; rw [hk, q3]
  have h4 : Rd.s4 b = sA := by unfold Rd.s4; rw [hk]; exact n4
  have hsR : Rd.sR b = Rd.rest b (hasY 1) (hasL 1) (hasD 1) (Rd.s4 b) := by unfold Rd.sR; rw [hk]
  rw [h4] at hsR
  have hR5 : Rd.sR b = ((false, [], []), sA) := hsR.trans (Rd.rest_n b _)
  have hx : Rd.taken b = ⟨1, (Rd.sT b).1, r, i, a, 0, false, [], []⟩ := by rw [(Rd.of_rest hR5).1, hk, v0, v1, v2, v3]
  have hs : (Rd.sR b).2 = sA := congrArg Prod.snd hR5
  have hf := Rd.form_of hx hs
  rw [Rd.fine_of hx hs, hx]
  exact rread_1_w _ _ _ v b w hb hl hK hT r sR hR i sI hI a sA hA hf
theorem read44_2_w (v : Value) (b : List UInt8) (w : World) (hb : RdB w v b) (hl : b.length ≤ 1000000) (hk : (Rd.sK b).1 = 2) : Calls Try.prog 44 #[v] w (ReadP w (Rd.taken b) (Rd.fine b)) := by
  have hK : Form.small b 0 0 7 = (2, (Rd.sK b).2) := Prod.ext hk rfl
  have hT : Form.small b (Rd.sK b).2.1 (Rd.sK b).2.2 18446744073709551615 = ((Rd.sT b).1, (Rd.sT b).2) := rfl
  have n0 : Rd.ns b (Rd.flags 2) (Rd.sT b).2 0 = (Rd.sT b).2 := rfl
  obtain ⟨r, sR, hR⟩ : ∃ n s, Form.small b (Rd.sT b).2.1 (Rd.sT b).2.2 18446744073709551615 = (n, s) := ⟨_, _, rfl⟩
  have q0 : Rd.nf b (Rd.flags 2 0) (Rd.ns b (Rd.flags 2) (Rd.sT b).2 0) = (r, sR) := by rw [n0]; exact Rd.nf_true hR
  have n1 : Rd.ns b (Rd.flags 2) (Rd.sT b).2 1 = sR := by have h := congrArg Prod.snd q0; exact h
  have v0 : Rd.vN b 0 = r := by unfold Rd.vN Rd.nv; rw [hk, q0]
  have q1 : Rd.nf b (Rd.flags 2 1) (Rd.ns b (Rd.flags 2) (Rd.sT b).2 1) = (0, sR) := by rw [n1]; exact Rd.nf_false _ _
  have n2 : Rd.ns b (Rd.flags 2) (Rd.sT b).2 2 = sR := by have h := congrArg Prod.snd q1; exact h
  have v1 : Rd.vN b 1 = 0 := by unfold Rd.vN Rd.nv; rw [hk, q1]
  have q2 : Rd.nf b (Rd.flags 2 2) (Rd.ns b (Rd.flags 2) (Rd.sT b).2 2) = (0, sR) := by rw [n2]; exact Rd.nf_false _ _
  have n3 : Rd.ns b (Rd.flags 2) (Rd.sT b).2 3 = sR := by have h := congrArg Prod.snd q2; exact h
  have v2 : Rd.vN b 2 = 0 := by unfold Rd.vN Rd.nv; rw [hk, q2]
  have q3 : Rd.nf b (Rd.flags 2 3) (Rd.ns b (Rd.flags 2) (Rd.sT b).2 3) = (0, sR) := by rw [n3]; exact Rd.nf_false _ _
  have n4 : Rd.ns b (Rd.flags 2) (Rd.sT b).2 4 = sR := by have h := congrArg Prod.snd q3; exact h
  have v3 : Rd.vN b 3 = 0 := by unfold Rd.vN Rd.nv; rw [hk, q3]
  have h4 : Rd.s4 b = sR := by unfold Rd.s4; rw [hk]; exact n4
  have hsR : Rd.sR b = Rd.rest b (hasY 2) (hasL 2) (hasD 2) (Rd.s4 b) := by unfold Rd.sR; rw [hk]
  rw [h4] at hsR
  obtain ⟨y, sY, hY⟩ : ∃ y s, Form.flg b sR.1 sR.2 = (y, s) := ⟨_, _, rfl⟩
  have hR5 : Rd.sR b = ((y, [], []), sY) := hsR.trans (Rd.rest_y hY)
  have hx : Rd.taken b = ⟨2, (Rd.sT b).1, r, 0, 0, 0, y, [], []⟩ := by rw [(Rd.of_rest hR5).1, hk, v0, v1, v2, v3]
  have hs : (Rd.sR b).2 = sY := congrArg Prod.snd hR5
  have hf := Rd.form_of hx hs
  rw [Rd.fine_of hx hs, hx]
  exact rread_2_w _ _ _ v b w hb hl hK hT r sR hR y sY hY hf
theorem read44_3_w (v : Value) (b : List UInt8) (w : World) (hb : RdB w v b) (hl : b.length ≤ 1000000) (hk : (Rd.sK b).1 = 3) : Calls Try.prog 44 #[v] w (ReadP w (Rd.taken b) (Rd.fine b)) := by
  have hK : Form.small b 0 0 7 = (3, (Rd.sK b).2) := Prod.ext hk rfl
  have hT : Form.small b (Rd.sK b).2.1 (Rd.sK b).2.2 18446744073709551615 = ((Rd.sT b).1, (Rd.sT b).2) := rfl
  have n0 : Rd.ns b (Rd.flags 3) (Rd.sT b).2 0 = (Rd.sT b).2 := rfl
  have q0 : Rd.nf b (Rd.flags 3 0) (Rd.ns b (Rd.flags 3) (Rd.sT b).2 0) = (0, (Rd.sT b).2) := by rw [n0]; exact Rd.nf_false _ _
  have n1 : Rd.ns b (Rd.flags 3) (Rd.sT b).2 1 = (Rd.sT b).2 := by have h := congrArg Prod.snd q0; exact h
  have v0 : Rd.vN b 0 = 0 := by unfold Rd.vN Rd.nv; rw [hk, q0]
  obtain ⟨i, sI, hI⟩ : ∃ n s, Form.small b (Rd.sT b).2.1 (Rd.sT b).2.2 18446744073709551615 = (n, s) := ⟨_, _, rfl⟩
  have q1 : Rd.nf b (Rd.flags 3 1) (Rd.ns b (Rd.flags 3) (Rd.sT b).2 1) = (i, sI) := by rw [n1]; exact Rd.nf_true hI
  have n2 : Rd.ns b (Rd.flags 3) (Rd.sT b).2 2 = sI := by have h := congrArg Prod.snd q1; exact h
  have v1 : Rd.vN b 1 = i := by unfold Rd.vN Rd.nv; rw [hk, q1]
  obtain ⟨a, sA, hA⟩ : ∃ n s, Form.small b sI.1 sI.2 18446744073709551615 = (n, s) := ⟨_, _, rfl⟩
  have q2 : Rd.nf b (Rd.flags 3 2) (Rd.ns b (Rd.flags 3) (Rd.sT b).2 2) = (a, sA) := by rw [n2]; exact Rd.nf_true hA
  have n3 : Rd.ns b (Rd.flags 3) (Rd.sT b).2 3 = sA := by have h := congrArg Prod.snd q2; exact h
  have v2 : Rd.vN b 2 = a := by unfold Rd.vN Rd.nv; rw [hk, q2]
  have q3 : Rd.nf b (Rd.flags 3 3) (Rd.ns b (Rd.flags 3) (Rd.sT b).2 3) = (0, sA) := by rw [n3]; exact Rd.nf_false _ _
  have n4 : Rd.ns b (Rd.flags 3) (Rd.sT b).2 4 = sA := by have h := congrArg Prod.snd q3; exact h
  have v3 : Rd.vN b 3 = 0 := by unfold Rd.vN Rd.nv; rw [hk, q3]
  have h4 : Rd.s4 b = sA := by unfold Rd.s4; rw [hk]; exact n4
  have hsR : Rd.sR b = Rd.rest b (hasY 3) (hasL 3) (hasD 3) (Rd.s4 b) := by unfold Rd.sR; rw [hk]
  rw [h4] at hsR
  have hR5 : Rd.sR b = ((false, [], []), sA) := hsR.trans (Rd.rest_n b _)
  have hx : Rd.taken b = ⟨3, (Rd.sT b).1, 0, i, a, 0, false, [], []⟩ := by rw [(Rd.of_rest hR5).1, hk, v0, v1, v2, v3]
  have hs : (Rd.sR b).2 = sA := congrArg Prod.snd hR5
  have hf := Rd.form_of hx hs
  rw [Rd.fine_of hx hs, hx]
  exact rread_3_w _ _ _ v b w hb hl hK hT i sI hI a sA hA hf
theorem read44_4_w (v : Value) (b : List UInt8) (w : World) (hb : RdB w v b) (hl : b.length ≤ 1000000) (hk : (Rd.sK b).1 = 4) : Calls Try.prog 44 #[v] w (ReadP w (Rd.taken b) (Rd.fine b)) := by
  have hK : Form.small b 0 0 7 = (4, (Rd.sK b).2) := Prod.ext hk rfl
  have hT : Form.small b (Rd.sK b).2.1 (Rd.sK b).2.2 18446744073709551615 = ((Rd.sT b).1, (Rd.sT b).2) := rfl
  have n0 : Rd.ns b (Rd.flags 4) (Rd.sT b).2 0 = (Rd.sT b).2 := rfl
  have q0 : Rd.nf b (Rd.flags 4 0) (Rd.ns b (Rd.flags 4) (Rd.sT b).2 0) = (0, (Rd.sT b).2) := by rw [n0]; exact Rd.nf_false _ _
  have n1 : Rd.ns b (Rd.flags 4) (Rd.sT b).2 1 = (Rd.sT b).2 := by have h := congrArg Prod.snd q0; exact h
  have v0 : Rd.vN b 0 = 0 := by unfold Rd.vN Rd.nv; rw [hk, q0]
  have q1 : Rd.nf b (Rd.flags 4 1) (Rd.ns b (Rd.flags 4) (Rd.sT b).2 1) = (0, (Rd.sT b).2) := by rw [n1]; exact Rd.nf_false _ _
  have n2 : Rd.ns b (Rd.flags 4) (Rd.sT b).2 2 = (Rd.sT b).2 := by have h := congrArg Prod.snd q1; exact h
  have v1 : Rd.vN b 1 = 0 := by unfold Rd.vN Rd.nv; rw [hk, q1]
  have q2 : Rd.nf b (Rd.flags 4 2) (Rd.ns b (Rd.flags 4) (Rd.sT b).2 2) = (0, (Rd.sT b).2) := by rw [n2]; exact Rd.nf_false _ _
  have n3 : Rd.ns b (Rd.flags 4) (Rd.sT b).2 3 = (Rd.sT b).2 := by have h := congrArg Prod.snd q2; exact h
  have v2 : Rd.vN b 2 = 0 := by unfold Rd.vN Rd.nv; rw [hk, q2]
  have q3 : Rd.nf b (Rd.flags 4 3) (Rd.ns b (Rd.flags 4) (Rd.sT b).2 3) = (0, (Rd.sT b).2) := by rw [n3]; exact Rd.nf_false _ _
  have n4 : Rd.ns b (Rd.flags 4) (Rd.sT b).2 4 = (Rd.sT b).2 := by have h := congrArg Prod.snd q3; exact h
  have v3 : Rd.vN b 3 = 0 := by unfold Rd.vN Rd.nv; rw [hk, q3]
  have h4 : Rd.s4 b = (Rd.sT b).2 := by unfold Rd.s4; rw [hk]; exact n4
  have hsR : Rd.sR b = Rd.rest b (hasY 4) (hasL 4) (hasD 4) (Rd.s4 b) := by unfold Rd.sR; rw [hk]
  rw [h4] at hsR
  obtain ⟨y, sY, hY⟩ : ∃ y s, Form.flg b (Rd.sT b).2.1 (Rd.sT b).2.2 = (y, s) := ⟨_, _, rfl⟩
  have hR5 : Rd.sR b = ((y, [], []), sY) := hsR.trans (Rd.rest_y hY)
  have hx : Rd.taken b = ⟨4, (Rd.sT b).1, 0, 0, 0, 0, y, [], []⟩ := by rw [(Rd.of_rest hR5).1, hk, v0, v1, v2, v3]
  have hs : (Rd.sR b).2 = sY := congrArg Prod.snd hR5
  have hf := Rd.form_of hx hs
  rw [Rd.fine_of hx hs, hx]
  exact rread_4_w _ _ _ v b w hb hl hK hT y sY hY hf
theorem read44_5_w (v : Value) (b : List UInt8) (w : World) (hb : RdB w v b) (hl : b.length ≤ 1000000) (hk : (Rd.sK b).1 = 5) : Calls Try.prog 44 #[v] w (ReadP w (Rd.taken b) (Rd.fine b)) := by
  have hK : Form.small b 0 0 7 = (5, (Rd.sK b).2) := Prod.ext hk rfl
  have hT : Form.small b (Rd.sK b).2.1 (Rd.sK b).2.2 18446744073709551615 = ((Rd.sT b).1, (Rd.sT b).2) := rfl
  have n0 : Rd.ns b (Rd.flags 5) (Rd.sT b).2 0 = (Rd.sT b).2 := rfl
  have q0 : Rd.nf b (Rd.flags 5 0) (Rd.ns b (Rd.flags 5) (Rd.sT b).2 0) = (0, (Rd.sT b).2) := by rw [n0]; exact Rd.nf_false _ _
  have n1 : Rd.ns b (Rd.flags 5) (Rd.sT b).2 1 = (Rd.sT b).2 := by have h := congrArg Prod.snd q0; exact h
  have v0 : Rd.vN b 0 = 0 := by unfold Rd.vN Rd.nv; rw [hk, q0]
  obtain ⟨i, sI, hI⟩ : ∃ n s, Form.small b (Rd.sT b).2.1 (Rd.sT b).2.2 18446744073709551615 = (n, s) := ⟨_, _, rfl⟩
  have q1 : Rd.nf b (Rd.flags 5 1) (Rd.ns b (Rd.flags 5) (Rd.sT b).2 1) = (i, sI) := by rw [n1]; exact Rd.nf_true hI
  have n2 : Rd.ns b (Rd.flags 5) (Rd.sT b).2 2 = sI := by have h := congrArg Prod.snd q1; exact h
  have v1 : Rd.vN b 1 = i := by unfold Rd.vN Rd.nv; rw [hk, q1]
  obtain ⟨a, sA, hA⟩ : ∃ n s, Form.small b sI.1 sI.2 18446744073709551615 = (n, s) := ⟨_, _, rfl⟩
  have q2 : Rd.nf b (Rd.flags 5 2) (Rd.ns b (Rd.flags 5) (Rd.sT b).2 2) = (a, sA) := by rw [n2]; exact Rd.nf_true hA
  have n3 : Rd.ns b (Rd.flags 5) (Rd.sT b).2 3 = sA := by have h := congrArg Prod.snd q2; exact h
  have v2 : Rd.vN b 2 = a := by unfold Rd.vN Rd.nv; rw [hk, q2]
  obtain ⟨c, sC, hC⟩ : ∃ n s, Form.small b sA.1 sA.2 18446744073709551615 = (n, s) := ⟨_, _, rfl⟩
  have q3 : Rd.nf b (Rd.flags 5 3) (Rd.ns b (Rd.flags 5) (Rd.sT b).2 3) = (c, sC) := by rw [n3]; exact Rd.nf_true hC
  have n4 : Rd.ns b (Rd.flags 5) (Rd.sT b).2 4 = sC := by have h := congrArg Prod.snd q3; exact h
  have v3 : Rd.vN b 3 = c := by unfold Rd.vN Rd.nv; rw [hk, q3]
  have h4 : Rd.s4 b = sC := by unfold Rd.s4; rw [hk]; exact n4
  have hsR : Rd.sR b = Rd.rest b (hasY 5) (hasL 5) (hasD 5) (Rd.s4 b) := by unfold Rd.sR; rw [hk]
  rw [h4] at hsR
  obtain ⟨n, sN, hN⟩ : ∃ n s, Form.small b sC.1 sC.2 16 = (n, s) := ⟨_, _, rfl⟩
  have hR5 : Rd.sR b = ((false, (Rd.es b sN n).1, []), (Rd.es b sN n).2) := hsR.trans (Rd.rest_l hN)
  have hx : Rd.taken b = ⟨5, (Rd.sT b).1, 0, i, a, c, false, (Rd.es b sN n).1, []⟩ := by rw [(Rd.of_rest hR5).1, hk, v0, v1, v2, v3]
  have hs : (Rd.sR b).2 = (Rd.es b sN n).2 := congrArg Prod.snd hR5
  have hf := Rd.form_of hx hs
  rw [Rd.fine_of hx hs, hx]
  exact rread_5_w _ _ _ v b w hb hl hK hT i sI hI a sA hA c sC hC n sN hN hf
theorem read44_6_w (v : Value) (b : List UInt8) (w : World) (hb : RdB w v b) (hl : b.length ≤ 1000000) (hk : (Rd.sK b).1 = 6) : Calls Try.prog 44 #[v] w (ReadP w (Rd.taken b) (Rd.fine b)) := by
  have hK : Form.small b 0 0 7 = (6, (Rd.sK b).2) := Prod.ext hk rfl
  have hT : Form.small b (Rd.sK b).2.1 (Rd.sK b).2.2 18446744073709551615 = ((Rd.sT b).1, (Rd.sT b).2) := rfl
  have n0 : Rd.ns b (Rd.flags 6) (Rd.sT b).2 0 = (Rd.sT b).2 := rfl
  have q0 : Rd.nf b (Rd.flags 6 0) (Rd.ns b (Rd.flags 6) (Rd.sT b).2 0) = (0, (Rd.sT b).2) := by rw [n0]; exact Rd.nf_false _ _
  have n1 : Rd.ns b (Rd.flags 6) (Rd.sT b).2 1 = (Rd.sT b).2 := by have h := congrArg Prod.snd q0; exact h
  have v0 : Rd.vN b 0 = 0 := by unfold Rd.vN Rd.nv; rw [hk, q0]
  obtain ⟨i, sI, hI⟩ : ∃ n s, Form.small b (Rd.sT b).2.1 (Rd.sT b).2.2 18446744073709551615 = (n, s) := ⟨_, _, rfl⟩
  have q1 : Rd.nf b (Rd.flags 6 1) (Rd.ns b (Rd.flags 6) (Rd.sT b).2 1) = (i, sI) := by rw [n1]; exact Rd.nf_true hI
  have n2 : Rd.ns b (Rd.flags 6) (Rd.sT b).2 2 = sI := by have h := congrArg Prod.snd q1; exact h
  have v1 : Rd.vN b 1 = i := by unfold Rd.vN Rd.nv; rw [hk, q1]
  have q2 : Rd.nf b (Rd.flags 6 2) (Rd.ns b (Rd.flags 6) (Rd.sT b).2 2) = (0, sI) := by rw [n2]; exact Rd.nf_false _ _
  have n3 : Rd.ns b (Rd.flags 6) (Rd.sT b).2 3 = sI := by have h := congrArg Prod.snd q2; exact h
  have v2 : Rd.vN b 2 = 0 := by unfold Rd.vN Rd.nv; rw [hk, q2]
  have q3 : Rd.nf b (Rd.flags 6 3) (Rd.ns b (Rd.flags 6) (Rd.sT b).2 3) = (0, sI) := by rw [n3]; exact Rd.nf_false _ _
  have n4 : Rd.ns b (Rd.flags 6) (Rd.sT b).2 4 = sI := by have h := congrArg Prod.snd q3; exact h
  have v3 : Rd.vN b 3 = 0 := by unfold Rd.vN Rd.nv; rw [hk, q3]
  have h4 : Rd.s4 b = sI := by unfold Rd.s4; rw [hk]; exact n4
  have hsR : Rd.sR b = Rd.rest b (hasY 6) (hasL 6) (hasD 6) (Rd.s4 b) := by unfold Rd.sR; rw [hk]
  rw [h4] at hsR
  obtain ⟨y, sY, hY⟩ : ∃ y s, Form.flg b sI.1 sI.2 = (y, s) := ⟨_, _, rfl⟩
  have hR5 : Rd.sR b = ((y, [], []), sY) := hsR.trans (Rd.rest_y hY)
  have hx : Rd.taken b = ⟨6, (Rd.sT b).1, 0, i, 0, 0, y, [], []⟩ := by rw [(Rd.of_rest hR5).1, hk, v0, v1, v2, v3]
  have hs : (Rd.sR b).2 = sY := congrArg Prod.snd hR5
  have hf := Rd.form_of hx hs
  rw [Rd.fine_of hx hs, hx]
  exact rread_6_w _ _ _ v b w hb hl hK hT i sI hI y sY hY hf
theorem read44_7_w (v : Value) (b : List UInt8) (w : World) (hb : RdB w v b) (hl : b.length ≤ 1000000) (hk : (Rd.sK b).1 = 7) : Calls Try.prog 44 #[v] w (ReadP w (Rd.taken b) (Rd.fine b)) := by
  have hK : Form.small b 0 0 7 = (7, (Rd.sK b).2) := Prod.ext hk rfl
  have hT : Form.small b (Rd.sK b).2.1 (Rd.sK b).2.2 18446744073709551615 = ((Rd.sT b).1, (Rd.sT b).2) := rfl
  have n0 : Rd.ns b (Rd.flags 7) (Rd.sT b).2 0 = (Rd.sT b).2 := rfl
  have q0 : Rd.nf b (Rd.flags 7 0) (Rd.ns b (Rd.flags 7) (Rd.sT b).2 0) = (0, (Rd.sT b).2) := by rw [n0]; exact Rd.nf_false _ _
  have n1 : Rd.ns b (Rd.flags 7) (Rd.sT b).2 1 = (Rd.sT b).2 := by have h := congrArg Prod.snd q0; exact h
  have v0 : Rd.vN b 0 = 0 := by unfold Rd.vN Rd.nv; rw [hk, q0]
  obtain ⟨i, sI, hI⟩ : ∃ n s, Form.small b (Rd.sT b).2.1 (Rd.sT b).2.2 18446744073709551615 = (n, s) := ⟨_, _, rfl⟩
  have q1 : Rd.nf b (Rd.flags 7 1) (Rd.ns b (Rd.flags 7) (Rd.sT b).2 1) = (i, sI) := by rw [n1]; exact Rd.nf_true hI
  have n2 : Rd.ns b (Rd.flags 7) (Rd.sT b).2 2 = sI := by have h := congrArg Prod.snd q1; exact h
  have v1 : Rd.vN b 1 = i := by unfold Rd.vN Rd.nv; rw [hk, q1]
  obtain ⟨a, sA, hA⟩ : ∃ n s, Form.small b sI.1 sI.2 18446744073709551615 = (n, s) := ⟨_, _, rfl⟩
  have q2 : Rd.nf b (Rd.flags 7 2) (Rd.ns b (Rd.flags 7) (Rd.sT b).2 2) = (a, sA) := by rw [n2]; exact Rd.nf_true hA
  have n3 : Rd.ns b (Rd.flags 7) (Rd.sT b).2 3 = sA := by have h := congrArg Prod.snd q2; exact h
  have v2 : Rd.vN b 2 = a := by unfold Rd.vN Rd.nv; rw [hk, q2]
  have q3 : Rd.nf b (Rd.flags 7 3) (Rd.ns b (Rd.flags 7) (Rd.sT b).2 3) = (0, sA) := by rw [n3]; exact Rd.nf_false _ _
  have n4 : Rd.ns b (Rd.flags 7) (Rd.sT b).2 4 = sA := by have h := congrArg Prod.snd q3; exact h
  have v3 : Rd.vN b 3 = 0 := by unfold Rd.vN Rd.nv; rw [hk, q3]
  have h4 : Rd.s4 b = sA := by unfold Rd.s4; rw [hk]; exact n4
  have hsR : Rd.sR b = Rd.rest b (hasY 7) (hasL 7) (hasD 7) (Rd.s4 b) := by unfold Rd.sR; rw [hk]
  rw [h4] at hsR
  obtain ⟨D, sD, hD⟩ : ∃ D s, Form.txt b sA.1 sA.2 524288 = (D, s) := ⟨_, _, rfl⟩
  have hR5 : Rd.sR b = ((false, [], D), sD) := hsR.trans (Rd.rest_d hD)
  have hx : Rd.taken b = ⟨7, (Rd.sT b).1, 0, i, a, 0, false, [], D⟩ := by rw [(Rd.of_rest hR5).1, hk, v0, v1, v2, v3]
  have hs : (Rd.sR b).2 = sD := congrArg Prod.snd hR5
  have hf := Rd.form_of hx hs
  rw [Rd.fine_of hx hs, hx]
  exact rread_7_w _ _ _ v b w hb hl hK hT i sI hI a sA hA D sD hD hf
theorem read44_w (v : Value) (b : List UInt8) (w : World) (hb : RdB w v b) (hl : b.length ≤ 1000000) : Calls Try.prog 44 #[v] w (ReadP w (Rd.taken b) (Rd.fine b)) := by
  have h7 := (Rd.sK_le b).2
  have hk : (Rd.sK b).1 = 0 ∨ (Rd.sK b).1 = 1 ∨ (Rd.sK b).1 = 2 ∨ (Rd.sK b).1 = 3 ∨ (Rd.sK b).1 = 4 ∨ (Rd.sK b).1 = 5 ∨ (Rd.sK b).1 = 6 ∨ (Rd.sK b).1 = 7 := by omega
  rcases hk with hk | hk | hk | hk | hk | hk | hk | hk
  · exact read44_0_w v b w hb hl hk
  · exact read44_1_w v b w hb hl hk
  · exact read44_2_w v b w hb hl hk
  · exact read44_3_w v b w hb hl hk
  · exact read44_4_w v b w hb hl hk
  · exact read44_5_w v b w hb hl hk
  · exact read44_6_w v b w hb hl hk
  · exact read44_7_w v b w hb hl hk
end Go.Proofs.Yteellfgiejnigaa
