/- Plain law of the register of CRC-32: the step by feed, by bytes over a table, and their algebra. No program in sight. -/
namespace Go.Proofs.Ytjkldodlnpkdaaa.Crc

def poly : Nat := 3988292384
def S (x : Nat) : Nat := (x / 2) ^^^ (if x % 2 = 1 then poly else 0)
def Sn : Nat → Nat → Nat
  | 0, x => x
  | n + 1, x => Sn n (S x)

theorem half_xor (x y : Nat) : (x ^^^ y) / 2 = (x / 2) ^^^ (y / 2) := by
  apply Nat.eq_of_testBit_eq; intro i
  simp [Nat.testBit_div_two, Nat.testBit_xor]
theorem odd_xor (x y : Nat) : (x ^^^ y) % 2 = (x % 2 + y % 2) % 2 := by
  have h := Nat.xor_mod_two_pow (a := x) (b := y) (n := 1)
  simp at h
  rw [h]
  have hx : x % 2 = 0 ∨ x % 2 = 1 := by omega
  have hy : y % 2 = 0 ∨ y % 2 = 1 := by omega
  rcases hx with hx | hx <;> rcases hy with hy | hy <;> simp [hx, hy]

theorem S_xor (x y : Nat) : S (x ^^^ y) = S x ^^^ S y := by
  unfold S
  rw [half_xor, odd_xor]
  have hx : x % 2 = 0 ∨ x % 2 = 1 := by omega
  have hy : y % 2 = 0 ∨ y % 2 = 1 := by omega
  rcases hx with hx | hx <;> rcases hy with hy | hy <;> simp [hx, hy]
  · rw [Nat.xor_assoc]
  · rw [Nat.xor_assoc, Nat.xor_assoc, Nat.xor_comm poly]
  · rw [show x / 2 ^^^ poly ^^^ (y / 2 ^^^ poly) = x / 2 ^^^ y / 2 ^^^ (poly ^^^ poly) by
      rw [Nat.xor_assoc, Nat.xor_assoc, Nat.xor_comm poly (y / 2 ^^^ poly), Nat.xor_assoc]]
    simp

theorem Sn_xor (n : Nat) : ∀ x y, Sn n (x ^^^ y) = Sn n x ^^^ Sn n y := by
  induction n with
  | zero => intro x y; rfl
  | succ n ih => intro x y; simp only [Sn, S_xor, ih]

theorem S_zero : S 0 = 0 := by decide
theorem Sn_zero (n : Nat) : Sn n 0 = 0 := by induction n with
  | zero => rfl
  | succ n ih => simp only [Sn, S_zero, ih]
theorem Sn_add (m n x : Nat) : Sn (m + n) x = Sn n (Sn m x) := by
  induction m generalizing x with
  | zero => simp [Sn]
  | succ m ih => rw [Nat.succ_add]; simp only [Sn]; exact ih _
theorem Sn_succ' (n x : Nat) : Sn (n + 1) x = S (Sn n x) := by rw [Sn_add]; rfl

theorem S_lt (x : Nat) (h : x < 2 ^ 32) : S x < 2 ^ 32 := by
  unfold S
  apply Nat.xor_lt_two_pow
  · omega
  · split <;> decide
theorem Sn_lt (n : Nat) : ∀ x, x < 2 ^ 32 → Sn n x < 2 ^ 32 := by
  induction n with
  | zero => intro x h; exact h
  | succ n ih => intro x h; exact ih _ (S_lt x h)

/-- A number whose low feed are none is shifted. -/
theorem S_even (y : Nat) : S (2 * y) = y := by
  unfold S
  rw [if_neg (by omega), Nat.mul_div_cancel_left y (by decide)]; simp
theorem Sn_pow (n : Nat) : ∀ y, Sn n (2 ^ n * y) = y := by
  induction n with
  | zero => intro y; simp [Sn]
  | succ n ih => intro y; simp only [Sn]; rw [Nat.pow_succ', Nat.mul_assoc, S_even, ih]

/-- The step is one-to-one on registers. -/
theorem S_inj0 (x : Nat) (hx : x < 2 ^ 32) (h : S x = 0) : x = 0 := by
  unfold S at h
  split at h
  · have h2 : x / 2 = poly := by
      have := congrArg (· ^^^ poly) h
      simpa [Nat.xor_assoc] using this
    unfold poly at h2; omega
  · simp at h; omega
theorem Sn_inj0 (n : Nat) : ∀ x, x < 2 ^ 32 → Sn n x = 0 → x = 0 := by
  induction n with
  | zero => intro x _ h; exact h
  | succ n ih => intro x hx h; exact S_inj0 x hx (ih _ (S_lt x hx) h)

/-- One byte by the table. -/
def C (x : Nat) (b : UInt8) : Nat := Sn 8 ((x % 256) ^^^ b.toNat) ^^^ (x / 256)

theorem split8 (x : Nat) : x = (x % 256) ^^^ (256 * (x / 256)) := by
  have h : x = 2 ^ 8 * (x / 256) + x % 256 := by omega
  have h2 := Nat.two_pow_add_eq_or_of_lt (i := 8) (b := x % 256) (by omega) (x / 256)
  apply Nat.eq_of_testBit_eq; intro i
  rw [Nat.testBit_xor]
  have e1 : (256 * (x / 256)).testBit i = (decide (i ≥ 8) && (x / 256).testBit (i - 8)) := by
    have := Nat.testBit_two_pow_mul (i := 8) (a := x / 256) (j := i)
    simpa using this
  have e2 : (x % 256).testBit i = (decide (i < 8) && x.testBit i) := by
    have := Nat.testBit_mod_two_pow x 8 i
    simpa using this
  have e3 : (x / 256).testBit (i - 8) = x.testBit (i - 8 + 8) := by
    have := Nat.testBit_div_two_pow (n := 8) x (i := i - 8)
    simpa using this
  rw [e1, e2, e3]
  by_cases hi : i < 8
  · simp [hi, Nat.not_le.2 hi]
  · simp [hi, Nat.le_of_not_lt hi, show i - 8 + 8 = i by omega]

theorem C_eq (x : Nat) (b : UInt8) : C x b = Sn 8 (x ^^^ b.toNat) := by
  unfold C
  have h : x ^^^ b.toNat = ((x % 256) ^^^ b.toNat) ^^^ (256 * (x / 256)) := by
    conv => lhs; rw [split8 x]
    rw [Nat.xor_assoc, Nat.xor_comm (256 * (x / 256)), ← Nat.xor_assoc]
  rw [h, Sn_xor 8 (_ ^^^ _), show 256 * (x / 256) = 2 ^ 8 * (x / 256) from rfl, Sn_pow]

theorem C_lt (x : Nat) (b : UInt8) (h : x < 2 ^ 32) : C x b < 2 ^ 32 := by
  rw [C_eq]
  exact Sn_lt _ _ (Nat.xor_lt_two_pow h (Nat.lt_of_lt_of_le b.toNat_lt (by decide)))

/-- The register behind a text. -/
def run (x : Nat) (l : List UInt8) : Nat := l.foldl C x
theorem run_nil (x : Nat) : run x [] = x := rfl
theorem run_append (x : Nat) (l r : List UInt8) : run x (l ++ r) = run (run x l) r := by simp [run]
theorem run_lt (l : List UInt8) : ∀ x, x < 2 ^ 32 → run x l < 2 ^ 32 := by
  induction l with
  | nil => intro x h; exact h
  | cons b l ih => intro x h; exact ih _ (C_lt x b h)
theorem run_take_succ (x : Nat) (l : List UInt8) (k : Nat) (h : k < l.length) : run x (l.take (k + 1)) = C (run x (l.take k)) (l.getD k 0) := by
  rw [List.take_succ_eq_append_getElem h, run_append]
  simp [run, List.getD, h]

theorem run_flat_succ (x : Nat) (ls : List (List UInt8)) (k : Nat) (h : k < ls.length) : run x (ls.take (k + 1)).flatten = run (run x (ls.take k).flatten) (ls.getD k []) := by
  rw [List.take_succ_eq_append_getElem h, List.flatten_append, run_append]
  simp [List.getD, h]

/-- A text as a number, the lowest byte first. -/
def le : List UInt8 → Nat
  | [] => 0
  | b :: l => b.toNat ^^^ (256 * le l)
theorem mul256_xor (x y : Nat) : 256 * (x ^^^ y) = (256 * x) ^^^ (256 * y) := by
  apply Nat.eq_of_testBit_eq; intro i
  have h : ∀ z : Nat, (256 * z).testBit i = (decide (i ≥ 8) && z.testBit (i - 8)) := fun z => by
    have := Nat.testBit_two_pow_mul (i := 8) (a := z) (j := i)
    simpa using this
  rw [h, Nat.testBit_xor, Nat.testBit_xor, h, h]
  cases decide (i ≥ 8) <;> simp
theorem run_le (l : List UInt8) : ∀ x, run x l = Sn (8 * l.length) (x ^^^ le l) := by
  induction l with
  | nil => intro x; simp [run, Sn, le]
  | cons b l ih =>
    intro x
    show run (C x b) l = _
    rw [ih, C_eq, List.length_cons, show 8 * (l.length + 1) = 8 + 8 * l.length by omega, Sn_add, le, ← Nat.xor_assoc, Sn_xor 8 (_ ^^^ _), show 256 * le l = 2 ^ 8 * le l from rfl, Sn_pow]

/-- A number's four bytes. -/
def four (n : Nat) : List UInt8 := [UInt8.ofNat (n % 256), UInt8.ofNat (n / 256 % 256), UInt8.ofNat (n / 65536 % 256), UInt8.ofNat (n / 16777216 % 256)]
theorem le_four (n : Nat) (h : n < 2 ^ 32) : le (four n) = n := by
  simp only [four, le, UInt8.toNat_ofNat', Nat.reducePow, Nat.mod_mod, Nat.mul_zero, Nat.xor_zero]
  rw [Nat.mod_eq_of_lt (show n / 16777216 < 256 by omega), show n / 16777216 = n / 65536 / 256 by omega, ← split8 (n / 65536), show n / 65536 = n / 256 / 256 by omega, ← split8 (n / 256), ← split8 n]

/-- The reference's step: a bit handed in. -/
def R (x bit : Nat) : Nat := (x / 2) ^^^ (if x % 2 ≠ bit then poly else 0)
theorem R_eq (x bit : Nat) (h : bit < 2) : R x bit = S (x ^^^ bit) := by
  unfold R S
  rw [half_xor, odd_xor]
  have hb : bit = 0 ∨ bit = 1 := by omega
  have hx : x % 2 = 0 ∨ x % 2 = 1 := by omega
  rcases hb with rfl | rfl <;> rcases hx with hx | hx <;> simp [hx]

def bitAt (l : List UInt8) (i : Nat) : Nat := (l.getD (i / 8) 0).toNat / 2 ^ (i % 8) % 2
def feed (l : List UInt8) (x : Nat) : Nat → Nat
  | 0 => x
  | k + 1 => R (feed l x k) (bitAt l k)

/-- j feed of byte b. -/
theorem feed_byte (l : List UInt8) (x y q : Nat) (j : Nat) (hj : j ≤ 8) (h : feed l x (8 * q) = y) :
    feed l x (8 * q + j) = Sn j (y ^^^ ((l.getD q 0).toNat % 2 ^ j)) := by
  induction j with
  | zero => simp [Sn, h, Nat.mod_one]
  | succ j ih =>
    have ih := ih (by omega)
    rw [show 8 * q + (j + 1) = (8 * q + j) + 1 by omega]
    simp only [feed]
    rw [ih]
    have hb : bitAt l (8 * q + j) = (l.getD q 0).toNat / 2 ^ j % 2 := by
      unfold bitAt; rw [show (8 * q + j) / 8 = q by omega, show (8 * q + j) % 8 = j by omega]
    rw [hb, R_eq _ _ (by omega), Sn_succ']
    have hm : (l.getD q 0).toNat % 2 ^ (j + 1) = (l.getD q 0).toNat % 2 ^ j ^^^ (2 ^ j * ((l.getD q 0).toNat / 2 ^ j % 2)) := by
      generalize (l.getD q 0).toNat = z
      apply Nat.eq_of_testBit_eq; intro i
      rw [Nat.testBit_xor, Nat.testBit_mod_two_pow, Nat.testBit_mod_two_pow, Nat.testBit_two_pow_mul]
      have e2 : (z / 2 ^ j % 2).testBit (i - j) = (decide (i - j < 1) && z.testBit (j + (i - j))) := by
        have := Nat.testBit_mod_two_pow (z / 2 ^ j) 1 (i - j)
        rw [Nat.pow_one] at this
        rw [this, Nat.testBit_div_two_pow, Nat.add_comm]
      rw [e2]
      by_cases h1 : i < j
      · simp [h1, Nat.not_le.2 h1, show i < j + 1 by omega]
      · by_cases h2 : i = j
        · subst h2; simp
        · simp [h1, show ¬ i < j + 1 by omega, show ¬ (i - j < 1) by omega]
    rw [hm, ← Nat.xor_assoc, Sn_xor j (_ ^^^ _), Sn_pow]

theorem feed_run (l : List UInt8) (x : Nat) (q : Nat) (h : q ≤ l.length) : feed l x (8 * q) = run x (l.take q) := by
  induction q with
  | zero => rfl
  | succ q ih =>
    have ih := ih (by omega)
    rw [show 8 * (q + 1) = 8 * q + 8 by omega, feed_byte l x _ q 8 (Nat.le_refl _) ih, run_take_succ _ _ _ (by omega), C_eq]
    congr 2
    exact Nat.mod_eq_of_lt (l.getD q 0).toNat_lt

theorem R_lt (x bit : Nat) (h : x < 2 ^ 32) : R x bit < 2 ^ 32 := by
  unfold R
  apply Nat.xor_lt_two_pow
  · omega
  · split <;> decide
theorem feed_lt (l : List UInt8) (x : Nat) (h : x < 2 ^ 32) (k : Nat) : feed l x k < 2 ^ 32 := by
  induction k with
  | zero => exact h
  | succ k ih => exact R_lt _ _ ih

/-- The sum of a text. -/
def ones : Nat := 4294967295
def sum (l : List UInt8) : Nat := ones ^^^ run ones l
def more (s : Nat) (l : List UInt8) : Nat := ones ^^^ run (ones ^^^ s) l
theorem sum_lt (l : List UInt8) : sum l < 2 ^ 32 := Nat.xor_lt_two_pow (by decide) (run_lt l _ (by decide))
theorem more_lt (s : Nat) (l : List UInt8) (h : s < 2 ^ 32) : more s l < 2 ^ 32 := Nat.xor_lt_two_pow (by decide) (run_lt l _ (Nat.xor_lt_two_pow (by decide) h))

theorem residue (l : List UInt8) : sum (l ++ four (sum l)) = 558161692 := by
  have h1 := run_lt l ones (by decide)
  have hs := sum_lt l
  have e : run ones l ^^^ sum l = ones := by
    unfold sum
    rw [Nat.xor_comm ones, ← Nat.xor_assoc, Nat.xor_self, Nat.zero_xor]
  have e2 : sum (l ++ four (sum l)) = ones ^^^ Sn 32 (run ones l ^^^ sum l) := by
    have e3 : ∀ m, sum m = ones ^^^ run ones m := fun _ => rfl
    rw [e3 (_ ++ _), run_append, run_le (four _), le_four _ hs]
    rfl
  rw [e2, e]
  decide +kernel

theorem sum_eq (l : List UInt8) : sum l = ones ^^^ Sn (8 * l.length) (ones ^^^ le l) := by unfold sum; rw [run_le]

/-- Texts of one length are added like numbers. -/
theorem le_zip (a : List UInt8) : ∀ b : List UInt8, a.length = b.length → le (List.zipWith (· ^^^ ·) a b) = le a ^^^ le b := by
  induction a with
  | nil => intro b h; cases b <;> simp_all [le]
  | cons x a ih =>
    intro b h
    cases b with
    | nil => simp at h
    | cons y b =>
      simp only [List.zipWith_cons_cons, le]
      rw [ih b (by simpa using h), mul256_xor, UInt8.toNat_xor]
      simp only [Nat.xor_assoc]
      congr 1
      simp only [← Nat.xor_assoc]
      rw [Nat.xor_comm y.toNat]
theorem added (a b c : List UInt8) (h1 : a.length = b.length) (h2 : a.length = c.length) :
    sum (List.zipWith (· ^^^ ·) (List.zipWith (· ^^^ ·) a b) c) = sum a ^^^ sum b ^^^ sum c := by
  simp only [sum_eq]
  rw [le_zip _ _ (by simp; omega), le_zip _ _ h1]
  simp only [List.length_zipWith, ← h1, ← h2, Nat.min_self]
  simp only [Sn_xor]
  generalize Sn (8 * a.length) ones = z
  generalize Sn (8 * a.length) (le a) = p
  generalize Sn (8 * a.length) (le b) = q
  generalize Sn (8 * a.length) (le c) = r
  apply Nat.eq_of_testBit_eq; intro i
  simp only [Nat.testBit_xor]
  cases ones.testBit i <;> cases z.testBit i <;> cases p.testBit i <;> cases q.testBit i <;> cases r.testBit i <;> rfl

/-- A bit turned. -/
theorem le_set (l : List UInt8) : ∀ (q r : Nat) (b : UInt8), q < l.length → b.toNat = (l.getD q 0).toNat ^^^ 2 ^ r → le (l.set q b) = le l ^^^ 2 ^ (8 * q + r) := by
  induction l with
  | nil => intro q r b h; simp at h
  | cons x l ih =>
    intro q r b h hb
    cases q with
    | zero =>
      simp at hb
      simp only [List.set_cons_zero, le, hb, Nat.mul_zero, Nat.zero_add]
      rw [Nat.xor_assoc, Nat.xor_assoc, Nat.xor_comm (2 ^ r)]
    | succ q =>
      simp only [List.set_cons_succ, le]
      rw [ih q r b (by simpa using h) (by simpa using hb), mul256_xor, ← Nat.xor_assoc]
      congr 1
      rw [show 8 * (q + 1) + r = 8 + (8 * q + r) by omega, Nat.pow_add 2 8]

theorem mod_succ (z j : Nat) : z % 2 ^ (j + 1) = z % 2 ^ j ^^^ (2 ^ j * (z / 2 ^ j % 2)) := by
  apply Nat.eq_of_testBit_eq; intro i
  rw [Nat.testBit_xor, Nat.testBit_mod_two_pow, Nat.testBit_mod_two_pow, Nat.testBit_two_pow_mul]
  have e2 : (z / 2 ^ j % 2).testBit (i - j) = (decide (i - j < 1) && z.testBit (j + (i - j))) := by
    have := Nat.testBit_mod_two_pow (z / 2 ^ j) 1 (i - j)
    rw [Nat.pow_one] at this
    rw [this, Nat.testBit_div_two_pow, Nat.add_comm]
  rw [e2]
  by_cases h1 : i < j
  · simp [h1, Nat.not_le.2 h1, show i < j + 1 by omega]
  · by_cases h2 : i = j
    · subst h2; simp
    · simp [h1, show ¬ i < j + 1 by omega, show ¬ (i - j < 1) by omega]

theorem two_mul_xor (m x y : Nat) : 2 ^ m * (x ^^^ y) = (2 ^ m * x) ^^^ (2 ^ m * y) := by
  apply Nat.eq_of_testBit_eq; intro i
  rw [Nat.testBit_two_pow_mul, Nat.testBit_xor, Nat.testBit_xor, Nat.testBit_two_pow_mul, Nat.testBit_two_pow_mul]
  cases decide (i ≥ m) <;> simp
theorem xor_cancel (a b : Nat) (h : a ^^^ b = a) : b = 0 := by
  have := congrArg (a ^^^ ·) h
  simpa [← Nat.xor_assoc] using this
theorem burst (b c : List UInt8) (n bits : Nat) (hl : c.length = b.length) (hn : n ≤ 8 * b.length) (hb : bits < 2 ^ 32) (h0 : bits ≠ 0) (hle : le c = le b ^^^ 2 ^ n * bits) : sum b ≠ sum c := by
  intro h
  rw [sum_eq, sum_eq, hl, hle, ← Nat.xor_assoc, Sn_xor _ (_ ^^^ _), ← Nat.xor_assoc] at h
  have h2 := xor_cancel _ _ h.symm
  rw [show 8 * b.length = n + (8 * b.length - n) by omega, Sn_add, Sn_pow] at h2
  exact h0 (Sn_inj0 _ _ hb h2)

/-- Sums joined. -/
def join (a b n : Nat) : Nat := Sn (8 * n) a ^^^ b
theorem le_zeros (n : Nat) : le (List.replicate n 0) = 0 := by
  induction n with
  | zero => rfl
  | succ n ih => rw [List.replicate_succ, le, ih]; rfl
theorem run_zeros (x n : Nat) : run x (List.replicate n 0) = Sn (8 * n) x := by rw [run_le, le_zeros]; simp
theorem more_sum (a b : List UInt8) : more (sum a) b = sum (a ++ b) := by
  unfold more sum
  rw [← Nat.xor_assoc, Nat.xor_self, Nat.zero_xor, run_append]
theorem join_sum (a b : List UInt8) : join (sum a) (sum b) b.length = sum (a ++ b) := by
  unfold join
  rw [sum_eq b]
  unfold sum
  rw [run_append, run_le b]
  simp only [Sn_xor]
  generalize Sn (8 * b.length) ones = z
  generalize Sn (8 * b.length) (le b) = p
  generalize Sn (8 * b.length) (run ones a) = q
  apply Nat.eq_of_testBit_eq; intro i
  simp only [Nat.testBit_xor]
  cases ones.testBit i <;> cases z.testBit i <;> cases p.testBit i <;> cases q.testBit i <;> rfl
theorem join_lt (a b n : Nat) (ha : a < 2 ^ 32) (hb : b < 2 ^ 32) : join a b n < 2 ^ 32 := Nat.xor_lt_two_pow (Sn_lt _ _ ha) hb

/-- A linear map by what becomes of each bit. -/
theorem col_zero : Sn 1 (2 ^ 0) = poly := by decide
theorem col_succ (i : Nat) : Sn 1 (2 ^ (i + 1)) = 2 ^ i := by
  rw [Nat.pow_succ, Nat.mul_comm]; exact S_even _
theorem of_succ (k x i : Nat) : Sn k (x % 2 ^ (i + 1)) = if x / 2 ^ i % 2 = 1 then Sn k (x % 2 ^ i) ^^^ Sn k (2 ^ i) else Sn k (x % 2 ^ i) := by
  rw [mod_succ, Sn_xor]
  split
  · rename_i h; rw [h, Nat.mul_one]
  · rename_i h; rw [show x / 2 ^ i % 2 = 0 by omega, Nat.mul_zero, Sn_zero, Nat.xor_zero]
end Go.Proofs.Ytjkldodlnpkdaaa.Crc
