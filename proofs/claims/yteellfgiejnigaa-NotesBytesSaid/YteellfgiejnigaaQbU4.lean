/- Plain: a note is read: what is read, that it is a form, that forms are read back. -/
import Derived.Test.YteellfgiejnigaaQbU3
import Derived.Test.YteellfgiejnigaaQbV2
namespace Go.Proofs.Yteellfgiejnigaa
open Go.ChangeShapes Go.WideShapes Go.ChangeAt Go.RowKit
set_option linter.unusedVariables false
namespace Form
theorem rd_back (F rest : List UInt8) (n a : Nat) (hn : n < 2 ^ 64) (h : F.drop a = nat n ++ rest) : rd 0 0 (F.drop a) = (n, (nat n).length, 0) := by
  rw [h, rd_nat n 0 0 rest (by rw [Nat.pow_zero, Nat.mul_one]; exact hn) (fun h => absurd h (Nat.lt_irrefl _))]
  simp
theorem small_at (F rest : List UInt8) (n a most : Nat) (hn : n ≤ most) (hm : most < 2 ^ 64) (h : F.drop a = nat n ++ rest) : small F a 0 most = (n, a + (nat n).length, 0) := by
  unfold small
  rw [if_neg (by simp), rd_back F rest n a (by omega) h]
  simp only [if_true]
  rw [if_neg (by omega)]
theorem flg_back (F rest : List UInt8) (f : Bool) (a : Nat) (h : F.drop a = flag f ++ rest) : flg F a 0 = (f, a + 1, 0) := by
  have h1 : F[a]? = some (if f then 1 else 0) := by
    have := congrArg (fun l => l[0]?) h
    simpa [flag] using this
  unfold flg
  rw [if_neg (by simp), h1]
  cases f <;> simp
theorem txt_back (F rest t : List UInt8) (a : Nat) (m : Int) (ht : t.length < 2 ^ 64) (hm : t.length ≤ m.toNat) (h : F.drop a = text t ++ rest) : txt F a 0 m = (t, a + (text t).length, 0) := by
  unfold text at h
  rw [List.append_assoc] at h
  unfold txt
  rw [if_neg (by simp), rd_back F (t ++ rest) t.length a ht h]
  simp only [ne_eq, not_true_eq_false, if_false]
  have h2 : F.drop (a + (nat t.length).length) = t ++ rest := by rw [← List.drop_drop, h, List.drop_left]
  have h3 : F.length - (a + (nat t.length).length) = t.length + rest.length := by rw [← List.length_drop, h2, List.length_append]
  rw [if_neg (by omega), if_neg (by omega), h2, List.take_left]
  unfold text
  rw [List.length_append, Nat.add_assoc]
theorem small_most {b : List UInt8} {a : Nat} {e : Int} {most n a' : Nat} {e' : Int} (h : small b a e most = (n, a', e')) : n ≤ most := by
  unfold small at h
  split at h
  · cases h; exact Nat.zero_le _
  · obtain ⟨r, hr⟩ : ∃ r, rd 0 0 (b.drop a) = r := ⟨_, rfl⟩
    simp only [hr] at h
    split at h
    · split at h
      · cases h; exact Nat.zero_le _
      · cases h; omega
    · cases h; exact Nat.zero_le _
theorem flg_le {b : List UInt8} {a : Nat} {e : Int} {f : Bool} {a' : Nat} {e' : Int} (h : flg b a e = (f, a', e')) (ha : a ≤ b.length) : a' ≤ b.length := by
  unfold flg at h
  split at h
  · cases h; exact ha
  · split at h
    · cases h; exact ha
    · rename_i x hx
      have := (List.getElem?_eq_some_iff.1 hx).1
      split at h
      · cases h; exact ha
      · cases h; omega
theorem txt_le {b t : List UInt8} {a a' : Nat} {e e' m : Int} (h : txt b a e m = (t, a', e')) (ha : a ≤ b.length) : a' ≤ b.length ∧ t.length ≤ b.length ∧ t.length ≤ m.toNat := by
  unfold txt at h
  split at h
  · cases h; exact ⟨ha, Nat.zero_le _, Nat.zero_le _⟩
  · have h1 := (rd_cnt (b.drop a) 0 0).1
    rw [List.length_drop] at h1
    obtain ⟨r, hr⟩ : ∃ r, rd 0 0 (b.drop a) = r := ⟨_, rfl⟩
    obtain ⟨r1, r2, r3⟩ := r
    simp only [hr] at h h1
    split at h
    · cases h; exact ⟨ha, Nat.zero_le _, Nat.zero_le _⟩
    · split at h
      · cases h; exact ⟨ha, Nat.zero_le _, Nat.zero_le _⟩
      · split at h
        · cases h; exact ⟨ha, Nat.zero_le _, Nat.zero_le _⟩
        · cases h
          refine ⟨by omega, ?_, ?_⟩
          · rw [List.length_take, List.length_drop]; omega
          · rw [List.length_take]; omega
end Form
namespace Rd
abbrev St := Nat × Int
abbrev MX : Nat := 18446744073709551615
open _root_.Go.Proofs.Yteellfgiejnigaa.Form
/-- A number that may be there. -/
def nf (b : List UInt8) (f : Bool) (s : St) : Nat × St := if f then small b s.1 s.2 MX else (0, s)
def ns (b : List UInt8) (F : Nat → Bool) (s0 : St) : Nat → St
  | 0 => s0
  | j + 1 => (nf b (F j) (ns b F s0 j)).2
def nv (b : List UInt8) (F : Nat → Bool) (s0 : St) (j : Nat) : Nat := (nf b (F j) (ns b F s0 j)).1
theorem nf_step (b : List UInt8) (F : Nat → Bool) (s0 : St) (j : Nat) : nf b (F j) (ns b F s0 j) = (nv b F s0 j, ns b F s0 (j + 1)) := rfl
theorem nf_le {b : List UInt8} {f : Bool} {s s' : St} {n : Nat} (h : nf b f s = (n, s')) (ha : s.1 ≤ b.length) : s'.1 ≤ b.length ∧ n < 2 ^ 64 := by
  unfold nf at h
  cases f with
  | true => rw [if_pos rfl] at h; obtain ⟨_, h2, h3⟩ := small_le h ha; exact ⟨h2, h3⟩
  | false => rw [if_neg (by decide)] at h; cases h; exact ⟨ha, by decide⟩
theorem ns_le (b : List UInt8) (F : Nat → Bool) (s0 : St) (ha : s0.1 ≤ b.length) : ∀ j, (ns b F s0 j).1 ≤ b.length
  | 0 => ha
  | j + 1 => (nf_le (nf_step b F s0 j) (ns_le b F s0 ha j)).1
theorem nv_lt (b : List UInt8) (F : Nat → Bool) (s0 : St) (ha : s0.1 ≤ b.length) (j : Nat) : nv b F s0 j < 2 ^ 64 := (nf_le (nf_step b F s0 j) (ns_le b F s0 ha j)).2
theorem nf_at {b rest : List UInt8} {f : Bool} {s : St} {n : Nat} (h0 : s.2 = 0) (hn : n < 2 ^ 64) (hf : f = false → n = 0) (h : b.drop s.1 = (if f then Form.nat n else []) ++ rest) : nf b f s = (n, s.1 + (if f then Form.nat n else []).length, 0) := by
  unfold nf
  obtain ⟨a, e⟩ := s
  have h0' : e = 0 := h0
  subst h0'
  cases f with
  | true => rw [if_pos rfl]; exact small_at b rest n a MX (by unfold MX; omega) (by decide) (by simpa using h)
  | false => rw [if_neg (by decide), hf rfl]; simp
/-- Entries. -/
def en (b : List UInt8) (s : St) : Ent × St :=
  let r := small b s.1 s.2 MX
  let t := txt b r.2.1 r.2.2 3000
  ((r.1, t.1), t.2)
def es (b : List UInt8) (s0 : St) : Nat → List Ent × St
  | 0 => ([], s0)
  | i + 1 => ((es b s0 i).1 ++ [(en b (es b s0 i).2).1], (en b (es b s0 i).2).2)
theorem en_le (b : List UInt8) (s : St) (ha : s.1 ≤ b.length) : (en b s).2.1 ≤ b.length ∧ (en b s).1.1 < 2 ^ 64 ∧ (en b s).1.2.length ≤ 3000 := by
  obtain ⟨n, s1, hs⟩ : ∃ n s1, small b s.1 s.2 MX = (n, s1) := ⟨_, _, rfl⟩
  obtain ⟨a1, e1⟩ := s1
  obtain ⟨_, h2, h3⟩ := small_le hs ha
  obtain ⟨t, s2, ht⟩ : ∃ t s2, txt b a1 e1 3000 = (t, s2) := ⟨_, _, rfl⟩
  obtain ⟨h4, _, h5⟩ := txt_le ht h2
  unfold en
  simp only [hs, ht]
  exact ⟨h4, h3, h5⟩
theorem es_le (b : List UInt8) (s0 : St) (ha : s0.1 ≤ b.length) : ∀ i, (es b s0 i).2.1 ≤ b.length ∧ (es b s0 i).1.length = i ∧ ∀ e ∈ (es b s0 i).1, e.1 < 2 ^ 64 ∧ e.2.length ≤ 3000
  | 0 => ⟨ha, rfl, fun e he => by cases he⟩
  | i + 1 => by
    obtain ⟨h1, h2, h3⟩ := es_le b s0 ha i
    obtain ⟨h4, h5, h6⟩ := en_le b _ h1
    refine ⟨h4, by simp [es, h2], fun e he => ?_⟩
    rcases List.mem_append.1 he with he | he
    · exact h3 e he
    · rw [List.mem_singleton.1 he]; exact ⟨h5, h6⟩
theorem en_at {b rest : List UInt8} {s : St} {e : Ent} (h0 : s.2 = 0) (ht : e.1 < 2 ^ 64) (hl : e.2.length ≤ 3000) (h : b.drop s.1 = (Form.nat e.1 ++ Form.text e.2) ++ rest) : en b s = (e, s.1 + (Form.nat e.1 ++ Form.text e.2).length, 0) := by
  obtain ⟨a, z⟩ := s
  have h0' : z = 0 := h0
  subst h0'
  rw [List.append_assoc] at h
  have h1 := small_at b (Form.text e.2 ++ rest) e.1 a MX (by unfold MX; omega) (by decide) h
  have h2 := txt_back b rest e.2 (a + (Form.nat e.1).length) 3000 (by omega) (by show e.2.length ≤ 3000; exact hl) (by rw [← List.drop_drop, show b.drop a = _ from h, List.drop_left])
  unfold en
  simp only [h1, h2, List.length_append, Nat.add_assoc]
theorem es_at {b : List UInt8} : ∀ (L : List Ent) (rest : List UInt8) {s0 : St}, s0.2 = 0 → (∀ e ∈ L, e.1 < 2 ^ 64 ∧ e.2.length ≤ 3000) → b.drop s0.1 = entsN L ++ rest →
    ∀ i, i ≤ L.length → es b s0 i = (L.take i, s0.1 + (entsN (L.take i)).length, 0) := by
  intro L rest s0 h0 hL h i
  induction i with
  | zero => intro _; obtain ⟨a, z⟩ := s0; have h0' : z = 0 := h0; subst h0'; rfl
  | succ i ih =>
    intro hi
    have hi' : i < L.length := hi
    have h1 := ih (by omega)
    have hsp : entsN L = entsN (L.take i) ++ ((Form.nat L[i].1 ++ Form.text L[i].2) ++ entsN (L.drop (i + 1))) := by
      have hL2 : L = L.take i ++ (L[i] :: L.drop (i + 1)) := by rw [← List.drop_eq_getElem_cons hi', List.take_append_drop]
      conv => lhs; rw [hL2]
      unfold entsN
      rw [List.flatMap_append, List.flatMap_cons]
    have h2 : en b (es b s0 i).2 = (L[i], (es b s0 i).2.1 + (Form.nat L[i].1 ++ Form.text L[i].2).length, 0) := by
      rw [h1]
      obtain ⟨h3, h4⟩ := hL L[i] (List.getElem_mem _)
      refine en_at (rest := entsN (L.drop (i + 1)) ++ rest) rfl h3 h4 ?_
      show b.drop (s0.1 + (entsN (L.take i)).length) = _
      rw [← List.drop_drop, h, hsp, List.append_assoc, List.drop_left, List.append_assoc]
    show ((es b s0 i).1 ++ [(en b (es b s0 i).2).1], (en b (es b s0 i).2).2) = _
    rw [h2, h1, List.take_succ_eq_append_getElem hi', entsN_snoc]
    simp only [Nat.add_assoc, List.length_append]

/-! ### A note -/
def flags (k j : Nat) : Bool := if j = 0 then hasR k else if j = 1 then hasI k else if j = 2 then hasA k else if j = 3 then hasC k else false
def sK (b : List UInt8) : Nat × St := small b 0 0 7
def sT (b : List UInt8) : Nat × St := small b (sK b).2.1 (sK b).2.2 MX
def s4 (b : List UInt8) : St := ns b (flags (sK b).1) (sT b).2 4
/-- What stands behind the numbers, by the flags. -/
def rest (b : List UInt8) (fy fl fd : Bool) (s : St) : (Bool × List Ent × List UInt8) × St :=
  if fy then let r := flg b s.1 s.2; ((r.1, [], []), r.2)
  else if fl then let r := small b s.1 s.2 16; let q := es b r.2 r.1; ((false, q.1, []), q.2)
  else if fd then let r := txt b s.1 s.2 524288; ((false, [], r.1), r.2)
  else ((false, [], []), s)
def sR (b : List UInt8) : (Bool × List Ent × List UInt8) × St := rest b (hasY (sK b).1) (hasL (sK b).1) (hasD (sK b).1) (s4 b)
def vN (b : List UInt8) (j : Nat) : Nat := nv b (flags (sK b).1) (sT b).2 j
def taken (b : List UInt8) : Nt := ⟨(sK b).1, (sT b).1, vN b 0, vN b 1, vN b 2, vN b 3, (sR b).1.1, (sR b).1.2.1, (sR b).1.2.2⟩
def zeroN : Nt := ⟨0, 0, 0, 0, 0, 0, false, [], []⟩
def fine (b : List UInt8) : Bool := decide (done b.length (sR b).2.1 (sR b).2.2 = 0) && mayN (taken b)
def note (b : List UInt8) : Nt := if fine b then taken b else zeroN
def fault (b : List UInt8) : Int := if fine b then 0 else 5
/-- THERE AND BACK. -/
theorem taken_back (x : Nt) (tl : List UInt8) (hm : mayN x = true) (ht : x.term < 2 ^ 64) (hr : x.round < 2 ^ 64) (hi : x.index < 2 ^ 64) (ha : x.at_ < 2 ^ 64) (hc : x.commit < 2 ^ 64) (hl : ∀ e ∈ x.list, e.1 < 2 ^ 64) :
    taken (formN x ++ tl) = x ∧ (sR (formN x ++ tl)).2 = ((formN x).length, 0) := by
  obtain ⟨m1, m2, m3, m4, m5, m6, m7, m8, m9, m10, m11, m12, m13, m14⟩ := mayN_open hm
  have hlong := anyLong_no m14
  obtain ⟨k, t, r, i, s, c, y, L, D⟩ := x
  dsimp only at *
  generalize hb : formN ⟨k, t, r, i, s, c, y, L, D⟩ ++ tl = b
  obtain ⟨R, hR⟩ : ∃ R, R = (if hasY k then Form.flag y else if hasL k then Form.nat L.length ++ entsN L else if hasD k then Form.text D else []) := ⟨_, rfl⟩
  have hform : formN ⟨k, t, r, i, s, c, y, L, D⟩ = Form.nat k ++ (Form.nat t ++ ((if hasR k then Form.nat r else []) ++ ((if hasI k then Form.nat i else []) ++ ((if hasA k then Form.nat s else []) ++ ((if hasC k then Form.nat c else []) ++ R))))) := by
    rw [hR]
    unfold formN natsN
    simp only [List.flatMap_cons, List.flatMap_nil, List.append_assoc, List.append_nil]
  have hlen : (formN ⟨k, t, r, i, s, c, y, L, D⟩).length = (Form.nat k).length + ((Form.nat t).length + ((if hasR k then Form.nat r else []).length + ((if hasI k then Form.nat i else []).length + ((if hasA k then Form.nat s else []).length + ((if hasC k then Form.nat c else []).length + R.length))))) := by
    rw [hform]; simp only [List.length_append]
  rw [hlen]
  rw [hform] at hb
  simp only [List.append_assoc] at hb
  have e0 : b.drop 0 = Form.nat k ++ (Form.nat t ++ ((if hasR k then Form.nat r else []) ++ ((if hasI k then Form.nat i else []) ++ ((if hasA k then Form.nat s else []) ++ ((if hasC k then Form.nat c else []) ++ (R ++ tl)))))) := by rw [List.drop_zero, ← hb]
  have hK : sK b = (k, (Form.nat k).length, 0) := by
    have := small_at b _ k 0 7 m2 (by decide) e0
    rw [Nat.zero_add] at this; exact this
  have e1 : b.drop (Form.nat k).length = Form.nat t ++ ((if hasR k then Form.nat r else []) ++ ((if hasI k then Form.nat i else []) ++ ((if hasA k then Form.nat s else []) ++ ((if hasC k then Form.nat c else []) ++ (R ++ tl))))) := by rw [← hb, List.drop_left]
  have hT : sT b = (t, (Form.nat k).length + (Form.nat t).length, 0) := by
    unfold sT; rw [hK]
    exact small_at b _ t _ MX (by unfold MX; omega) (by decide) e1
  have step : ∀ {a : Nat} {p q : List UInt8}, b.drop a = p ++ q → b.drop (a + p.length) = q := fun {a p q} h => by rw [← List.drop_drop, h, List.drop_left]
  have e2 := step e1
  have hk1 : (sK b).1 = k := by rw [hK]
  have n0 : ns b (flags k) (sT b).2 0 = ((Form.nat k).length + (Form.nat t).length, 0) := by show (sT b).2 = _; rw [hT]
  have q0 : nf b (flags k 0) (ns b (flags k) (sT b).2 0) = (r, (Form.nat k).length + (Form.nat t).length + (if hasR k then Form.nat r else []).length, 0) := by rw [n0]; exact nf_at rfl hr (fun h => m3 h) e2
  have n1 : ns b (flags k) (sT b).2 1 = ((Form.nat k).length + (Form.nat t).length + (if hasR k then Form.nat r else []).length, 0) := congrArg Prod.snd q0
  have e3 := step e2
  have q1 : nf b (flags k 1) (ns b (flags k) (sT b).2 1) = (i, (Form.nat k).length + (Form.nat t).length + (if hasR k then Form.nat r else []).length + (if hasI k then Form.nat i else []).length, 0) := by rw [n1]; exact nf_at rfl hi (fun h => m4 h) e3
  have n2 : ns b (flags k) (sT b).2 2 = ((Form.nat k).length + (Form.nat t).length + (if hasR k then Form.nat r else []).length + (if hasI k then Form.nat i else []).length, 0) := congrArg Prod.snd q1
  have e4 := step e3
  have q2 : nf b (flags k 2) (ns b (flags k) (sT b).2 2) = (s, (Form.nat k).length + (Form.nat t).length + (if hasR k then Form.nat r else []).length + (if hasI k then Form.nat i else []).length + (if hasA k then Form.nat s else []).length, 0) := by rw [n2]; exact nf_at rfl ha (fun h => m5 h) e4
  have n3 : ns b (flags k) (sT b).2 3 = ((Form.nat k).length + (Form.nat t).length + (if hasR k then Form.nat r else []).length + (if hasI k then Form.nat i else []).length + (if hasA k then Form.nat s else []).length, 0) := congrArg Prod.snd q2
  have e5 := step e4
  have q3 : nf b (flags k 3) (ns b (flags k) (sT b).2 3) = (c, (Form.nat k).length + (Form.nat t).length + (if hasR k then Form.nat r else []).length + (if hasI k then Form.nat i else []).length + (if hasA k then Form.nat s else []).length + (if hasC k then Form.nat c else []).length, 0) := by rw [n3]; exact nf_at rfl hc (fun h => m6 h) e5
  have n4 : ns b (flags k) (sT b).2 4 = ((Form.nat k).length + (Form.nat t).length + (if hasR k then Form.nat r else []).length + (if hasI k then Form.nat i else []).length + (if hasA k then Form.nat s else []).length + (if hasC k then Form.nat c else []).length, 0) := congrArg Prod.snd q3
  have e6 := step e5
  have h4 : s4 b = ((Form.nat k).length + (Form.nat t).length + (if hasR k then Form.nat r else []).length + (if hasI k then Form.nat i else []).length + (if hasA k then Form.nat s else []).length + (if hasC k then Form.nat c else []).length, 0) := by
    unfold s4; rw [hk1, n4]
  have v0 : vN b 0 = r := by unfold vN nv; rw [hk1, q0]
  have v1 : vN b 1 = i := by unfold vN nv; rw [hk1, q1]
  have v2 : vN b 2 = s := by unfold vN nv; rw [hk1, q2]
  have v3 : vN b 3 = c := by unfold vN nv; rw [hk1, q3]
  have hRest : sR b = ((y, L, D), (s4 b).1 + R.length, 0) := by
    unfold sR; rw [hk1]
    have e6' : b.drop (s4 b).1 = R ++ tl := by rw [h4]; exact e6
    have h42 : (s4 b).2 = 0 := by rw [h4]
    generalize s4 b = st at *
    obtain ⟨st1, st2⟩ := st
    have h42' : st2 = 0 := h42
    subst h42'
    dsimp only at e6'
    unfold rest
    cases hy : hasY k with
    | true =>
      rw [hy, if_pos rfl] at hR
      subst hR
      have hl0 : hasL k = false := by unfold hasY at hy; unfold hasL; have := of_decide_eq_true hy; exact decide_eq_false (by omega)
      have hd0 : hasD k = false := by unfold hasY at hy; unfold hasD; have := of_decide_eq_true hy; exact decide_eq_false (by omega)
      rw [if_pos rfl]
      rw [List.eq_nil_of_length_eq_zero (m10 hl0), List.eq_nil_of_length_eq_zero (m11 hd0)]
      have := flg_back b tl y st1 e6'
      simp only [this]
      rfl
    | false =>
      rw [hy, if_neg (by decide)] at hR
      rw [if_neg (by decide), m9 hy]
      cases hl1 : hasL k with
      | true =>
        rw [hl1, if_pos rfl] at hR
        subst hR
        have hd0 : hasD k = false := by unfold hasL at hl1; unfold hasD; have := of_decide_eq_true hl1; exact decide_eq_false (by omega)
        rw [if_pos rfl, List.eq_nil_of_length_eq_zero (m11 hd0)]
        rw [List.append_assoc] at e6'
        have z1 := small_at b _ L.length st1 16 m12 (by decide) e6'
        have z2 := es_at L tl (s0 := (st1 + (Form.nat L.length).length, 0)) rfl (fun e he => ⟨hl e he, hlong e he⟩) (step e6') L.length (Nat.le_refl _)
        rw [List.take_length] at z2
        simp only [z1, z2, List.length_append, Nat.add_assoc]
      | false =>
        rw [hl1, if_neg (by decide)] at hR
        rw [if_neg (by decide), List.eq_nil_of_length_eq_zero (m10 hl1)]
        cases hd1 : hasD k with
        | true =>
          rw [hd1, if_pos rfl] at hR
          subst hR
          rw [if_pos rfl]
          have := txt_back b tl D st1 524288 (by omega) (by show D.length ≤ 524288; exact m13) e6'
          simp only [this]
        | false =>
          rw [hd1, if_neg (by decide)] at hR
          subst hR
          rw [if_neg (by decide), List.eq_nil_of_length_eq_zero (m11 hd1)]
          rfl
  refine ⟨?_, ?_⟩
  · unfold taken
    rw [v0, v1, v2, v3, hk1, hT, hRest]
  · rw [hRest, h4]
    simp only [Nat.add_assoc]
end Rd
end Go.Proofs.Yteellfgiejnigaa
