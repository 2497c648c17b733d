/- The remainder, in plain Lean: bit by bit, byte by byte; it is one to one on windows of 32 bits. No conditions. -/
namespace Go.Crc

def K : Nat := 3988292384
def st (s : Nat) : Nat := if s % 2 = 1 then (s / 2) ^^^ K else s / 2
def stn : Nat → Nat → Nat
  | 0, s => s
  | n + 1, s => stn n (st s)
theorem stn_succ (n : Nat) : ∀ s, stn (n + 1) s = st (stn n s) := by
  induction n with
  | zero => intro s; rfl
  | succ n ih => intro s; rw [stn, ih]; rfl
def byteStep (s b : Nat) : Nat := stn 8 (s ^^^ b)
def bitStep (s bit : Nat) : Nat := if (s % 2) ^^^ bit = 1 then (s / 2) ^^^ K else s / 2
def crc (s : Nat) (l : List UInt8) : Nat := l.foldl (fun s b => byteStep s b.toNat) s
def top : Nat := 4294967295
def sumOf (l : List UInt8) : Nat := crc top l ^^^ top

theorem xor_mod2 (a b : Nat) : (a ^^^ b) % 2 = (a % 2) ^^^ (b % 2) := by
  have h := Nat.xor_mod_two_pow (a := a) (b := b) (n := 1)
  simpa using h
theorem xor_div2 (a b : Nat) : (a ^^^ b) / 2 = (a / 2) ^^^ (b / 2) := by
  have h := Nat.xor_div_two_pow (a := a) (b := b) (n := 1)
  simpa using h
theorem xor_lt {a b n : Nat} (ha : a < 2 ^ n) (hb : b < 2 ^ n) : a ^^^ b < 2 ^ n := Nat.xor_lt_two_pow ha hb
theorem K_lt : K < 2 ^ 32 := by decide
theorem st_lt {s : Nat} (h : s < 2 ^ 32) : st s < 2 ^ 32 := by
  unfold st
  split
  · exact xor_lt (by omega) K_lt
  · omega
theorem stn_lt (n : Nat) : ∀ {s : Nat}, s < 2 ^ 32 → stn n s < 2 ^ 32 := by
  induction n with
  | zero => intro s h; exact h
  | succ n ih => intro s h; exact ih (st_lt h)
theorem byteStep_lt {s b : Nat} (h : s < 2 ^ 32) (hb : b < 256) : byteStep s b < 2 ^ 32 := stn_lt 8 (xor_lt h (by omega))
theorem crc_lt (l : List UInt8) : ∀ {s : Nat}, s < 2 ^ 32 → crc s l < 2 ^ 32 := by
  induction l with
  | nil => intro s h; exact h
  | cons b l ih => intro s h; exact ih (byteStep_lt h b.toNat_lt)
theorem crc_append (s : Nat) (l m : List UInt8) : crc s (l ++ m) = crc (crc s l) m := by simp [crc]

theorem mod2_cases (s : Nat) : s % 2 = 0 ∨ s % 2 = 1 := by omega

theorem bitStep_eq (s bit : Nat) (hb : bit < 2) : bitStep s bit = st (s ^^^ bit) := by
  unfold bitStep st
  rw [xor_mod2, xor_div2, Nat.mod_eq_of_lt hb, Nat.div_eq_of_lt hb, Nat.xor_zero]
theorem st_even (s y : Nat) : st (s ^^^ (2 * y)) = st s ^^^ y := by
  unfold st
  rw [xor_mod2, xor_div2]
  simp only [Nat.mul_mod_right, Nat.xor_zero, Nat.mul_div_cancel_left y (show 0 < 2 by omega)]
  split
  · rw [Nat.xor_assoc, Nat.xor_assoc, Nat.xor_comm y]
  · rfl
theorem split2 (w : Nat) : (w % 2) ^^^ (2 * (w / 2)) = w := by
  apply Nat.eq_of_testBit_eq
  intro i
  cases i with
  | zero => simp [Nat.testBit_zero, Nat.testBit_xor]
  | succ i =>
    rw [Nat.testBit_xor, Nat.testBit_succ, Nat.testBit_succ, Nat.testBit_succ]
    simp

/-- n bits of a word, the lowest first -/
def run : Nat → Nat → Nat → Nat
  | 0, s, _ => s
  | n + 1, s, w => run n (bitStep s (w % 2)) (w / 2)
theorem run_eq (n : Nat) : ∀ (s w : Nat), w < 2 ^ n → run n s w = stn n (s ^^^ w) := by
  induction n with
  | zero => intro s w h; simp at h; subst h; simp [run, stn]
  | succ n ih =>
    intro s w h
    have h' : w / 2 < 2 ^ n := by rw [Nat.pow_succ] at h; omega
    rw [run, ih _ _ h', bitStep_eq _ _ (by omega), stn, ← st_even, Nat.xor_assoc, split2]

/-- the reference's way: bit i of a text -/
def bitAt (l : List UInt8) (i : Nat) : Nat := ((l.getD (i / 8) 0).toNat >>> (i % 8)) % 2
def bits (l : List UInt8) : Nat → Nat → Nat
  | 0, s => s
  | k + 1, s => bitStep (bits l k s) (bitAt l k)

theorem bits_byte (l : List UInt8) (q : Nat) : ∀ (k : Nat) (s : Nat), k ≤ 8 → ∀ s0, bits l (8 * q) s = s0 → bits l (8 * q + k) s = run k s0 ((l.getD q 0).toNat % 2 ^ k) := by
  intro k
  induction k with
  | zero => intro s _ s0 h; simpa [run] using h
  | succ k ih =>
    intro s hk s0 h
    rw [← Nat.add_assoc, bits, ih s (by omega) s0 h]
    have hb : bitAt l (8 * q + k) = ((l.getD q 0).toNat >>> k) % 2 := by
      unfold bitAt
      rw [show (8 * q + k) / 8 = q by omega, show (8 * q + k) % 8 = k by omega]
    rw [hb]
    generalize (l.getD q 0).toNat = b
    clear ih h hb
    induction k generalizing s0 b with
    | zero => simp [run, Nat.mod_one]
    | succ k ih =>
      rw [run, run]
      have e1 : b % 2 ^ (k + 1) / 2 = (b / 2) % 2 ^ k := by
        rw [Nat.pow_succ, Nat.mul_comm, Nat.mod_mul_right_div_self]
      have e2 : b % 2 ^ (k + 1 + 1) / 2 = (b / 2) % 2 ^ (k + 1) := by
        rw [Nat.pow_succ, Nat.mul_comm, Nat.mod_mul_right_div_self]
      have e3 : b % 2 ^ (k + 1) % 2 = b % 2 := Nat.mod_mod_of_dvd _ ⟨2 ^ k, by rw [Nat.pow_succ, Nat.mul_comm]⟩
      have e4 : b % 2 ^ (k + 1 + 1) % 2 = b % 2 := Nat.mod_mod_of_dvd _ ⟨2 ^ (k + 1), by rw [Nat.pow_succ _ (k+1), Nat.mul_comm]⟩
      have e5 : b >>> (k + 1) = (b / 2) >>> k := by rw [Nat.add_comm, Nat.shiftRight_add]; rfl
      rw [e1, e2, e3, e4, e5]
      exact ih (by omega) _ (b / 2)

theorem bits_crc (l : List UInt8) (s : Nat) : ∀ q, q ≤ l.length → bits l (8 * q) s = crc s (l.take q) := by
  intro q
  induction q with
  | zero => intro _; rfl
  | succ q ih =>
    intro hq
    have h := bits_byte l q 8 s (Nat.le_refl _) _ (ih (by omega))
    rw [show 8 * (q + 1) = 8 * q + 8 by omega, h, run_eq _ _ _ (Nat.mod_lt _ (by decide))]
    rw [List.take_succ_eq_append_getElem (by omega), crc_append]
    have : (l.getD q 0) = l[q]'(by omega) := by simp [show q < l.length by omega]
    rw [this]
    simp only [crc, List.foldl_cons, List.foldl_nil, byteStep]
    rw [Nat.mod_eq_of_lt (by have := (l[q]'(by omega)).toNat_lt; omega)]

theorem bits_all (l : List UInt8) (s : Nat) : bits l (8 * l.length) s = crc s l := by
  rw [bits_crc l s _ (Nat.le_refl _), List.take_length]

/-! ### one to one -/
theorem testBit31 {s : Nat} (h : s < 2 ^ 31) : s.testBit 31 = false := Nat.testBit_lt_two_pow h
theorem K31 : K.testBit 31 = true := by decide
theorem xor_cancel {a b c : Nat} (h : a ^^^ c = b ^^^ c) : a = b := by
  have := congrArg (· ^^^ c) h
  simpa [Nat.xor_assoc] using this
theorem st_inj {s t : Nat} (hs : s < 2 ^ 32) (ht : t < 2 ^ 32) (h : st s = st t) : s = t := by
  unfold st at h
  have hs' : s / 2 < 2 ^ 31 := by omega
  have ht' : t / 2 < 2 ^ 31 := by omega
  split at h <;> split at h
  · have := xor_cancel h; omega
  · have := congrArg (·.testBit 31) h
    simp only [Nat.testBit_xor, testBit31 hs', testBit31 ht', K31] at this
    cases this
  · have := congrArg (·.testBit 31) h
    simp only [Nat.testBit_xor, testBit31 hs', testBit31 ht', K31] at this
    cases this
  · omega
theorem stn_inj (n : Nat) : ∀ {s t : Nat}, s < 2 ^ 32 → t < 2 ^ 32 → stn n s = stn n t → s = t := by
  induction n with
  | zero => intro s t _ _ h; exact h
  | succ n ih => intro s t hs ht h; exact st_inj hs ht (ih (st_lt hs) (st_lt ht) h)
theorem bitAt_lt (l : List UInt8) (i : Nat) : bitAt l i < 2 := by unfold bitAt; omega
theorem bitStep_lt {s b : Nat} (h : s < 2 ^ 32) (hb : b < 2) : bitStep s b < 2 ^ 32 := by
  rw [bitStep_eq _ _ hb]; exact st_lt (xor_lt h (by omega))
theorem bits_lt (l : List UInt8) (k : Nat) {s : Nat} (h : s < 2 ^ 32) : bits l k s < 2 ^ 32 := by
  induction k with
  | zero => exact h
  | succ k ih => exact bitStep_lt ih (bitAt_lt l k)
theorem bitStep_inj {s t b : Nat} (hb : b < 2) (hs : s < 2 ^ 32) (ht : t < 2 ^ 32) (h : bitStep s b = bitStep t b) : s = t := by
  rw [bitStep_eq _ _ hb, bitStep_eq _ _ hb] at h
  exact xor_cancel (st_inj (xor_lt hs (by omega)) (xor_lt ht (by omega)) h)

/-- texts that agree up to bit a go on alike -/
theorem bits_same {l m : List UInt8} {s : Nat} (a : Nat) (h : ∀ i, i < a → bitAt l i = bitAt m i) : bits l a s = bits m a s := by
  induction a with
  | zero => rfl
  | succ a ih => rw [bits, bits, ih fun i hi => h i (by omega), h a (by omega)]
/-- texts that agree from bit a on: other states there, other states behind -/
theorem bits_back {l m : List UInt8} {s : Nat} (hs : s < 2 ^ 32) (a k : Nat) (h : ∀ i, a ≤ i → i < a + k → bitAt l i = bitAt m i) (e : bits l (a + k) s = bits m (a + k) s) : bits l a s = bits m a s := by
  induction k with
  | zero => exact e
  | succ k ih =>
    refine ih (fun i h1 h2 => h i h1 (by omega)) ?_
    rw [← Nat.add_assoc, bits, bits, h (a + k) (by omega) (by omega)] at e
    exact bitStep_inj (bitAt_lt _ _) (bits_lt _ _ hs) (bits_lt _ _ hs) e

/-- the word of n bits from a on -/
def word (l : List UInt8) (a : Nat) : Nat → Nat
  | 0 => 0
  | n + 1 => word l a n + bitAt l (a + n) * 2 ^ n
theorem word_lt (l : List UInt8) (a n : Nat) : word l a n < 2 ^ n := by
  induction n with
  | zero => simp [word]
  | succ n ih =>
    have := bitAt_lt l (a + n)
    have h2 : bitAt l (a + n) * 2 ^ n ≤ 1 * 2 ^ n := Nat.mul_le_mul_right _ (by omega)
    rw [word, Nat.pow_succ]; omega
theorem run_snoc (n : Nat) : ∀ (s w : Nat), run (n + 1) s w = bitStep (run n s w) (w / 2 ^ n % 2) := by
  induction n with
  | zero => intro s w; simp [run]
  | succ n ih =>
    intro s w
    rw [run, ih, run]
    congr 1
    rw [Nat.div_div_eq_div_mul, Nat.pow_succ, Nat.mul_comm]
theorem run_mod (n : Nat) : ∀ (s w : Nat), run n s (w % 2 ^ n) = run n s w := by
  induction n with
  | zero => intro s w; rfl
  | succ n ih =>
    intro s w
    rw [run, run, Nat.mod_mod_of_dvd _ ⟨2 ^ n, by rw [Nat.pow_succ, Nat.mul_comm]⟩]
    have e1 : w % 2 ^ (n + 1) / 2 = (w / 2) % 2 ^ n := by rw [Nat.pow_succ, Nat.mul_comm, Nat.mod_mul_right_div_self]
    rw [e1, ih]
theorem bits_word (l : List UInt8) (a n : Nat) (s : Nat) : bits l (a + n) s = run n (bits l a s) (word l a n) := by
  induction n with
  | zero => rfl
  | succ n ih =>
    rw [← Nat.add_assoc, bits, ih, run_snoc]
    have hw := word_lt l a n
    have hb := bitAt_lt l (a + n)
    have e1 : word l a (n + 1) / 2 ^ n % 2 = bitAt l (a + n) := by
      rw [word, Nat.add_mul_div_right _ _ (Nat.two_pow_pos n), Nat.div_eq_of_lt hw, Nat.zero_add, Nat.mod_eq_of_lt hb]
    have e2 : run n (bits l a s) (word l a (n + 1)) = run n (bits l a s) (word l a n) := by
      rw [← run_mod n _ (word l a (n + 1)), word, Nat.add_mul_mod_self_right, Nat.mod_eq_of_lt hw]
    rw [e1, e2]
theorem word_inj {l m : List UInt8} {a : Nat} : ∀ n, word l a n = word m a n → ∀ i, i < n → bitAt l (a + i) = bitAt m (a + i) := by
  intro n
  induction n with
  | zero => intro _ i hi; omega
  | succ n ih =>
    intro h i hi
    have h1 := word_lt l a n
    have h2 := word_lt m a n
    have d1 : word l a (n + 1) / 2 ^ n = bitAt l (a + n) := by rw [word, Nat.add_mul_div_right _ _ (Nat.two_pow_pos n), Nat.div_eq_of_lt h1, Nat.zero_add]
    have d2 : word m a (n + 1) / 2 ^ n = bitAt m (a + n) := by rw [word, Nat.add_mul_div_right _ _ (Nat.two_pow_pos n), Nat.div_eq_of_lt h2, Nat.zero_add]
    have e : bitAt l (a + n) = bitAt m (a + n) := by rw [← d1, ← d2, h]
    by_cases hin : i = n
    · subst hin; exact e
    · refine ih ?_ i (by omega)
      rw [word, word, e] at h
      omega

/-- A text of which bits within n ≤ 32 that follow each other differ has another sum. -/
theorem crc_window {l m : List UInt8} (hlen : l.length = m.length) (a n : Nat) (hn : n ≤ 32) (hin : a + n ≤ 8 * l.length) (hb : ∀ i, i < a → bitAt l i = bitAt m i) (ha : ∀ i, a + n ≤ i → i < 8 * l.length → bitAt l i = bitAt m i)
    {s : Nat} (hs : s < 2 ^ 32) (e : crc s l = crc s m) : ∀ i, i < 8 * l.length → bitAt l i = bitAt m i := by
  rw [← bits_all, ← bits_all, ← hlen, show 8 * l.length = (a + n) + (8 * l.length - (a + n)) by omega] at e
  have e1 := bits_back hs (a + n) _ (fun i h1 h2 => ha i h1 (by omega)) e
  rw [bits_word, bits_word, bits_same a hb] at e1
  have hp : (2 : Nat) ^ n ≤ 2 ^ 32 := Nat.pow_le_pow_right (by omega) hn
  rw [run_eq _ _ _ (word_lt l a n), run_eq _ _ _ (word_lt m a n)] at e1
  have hσ := bits_lt m a hs
  have e2 := stn_inj n (xor_lt hσ (Nat.lt_of_lt_of_le (word_lt l a n) hp)) (xor_lt hσ (Nat.lt_of_lt_of_le (word_lt m a n) hp)) e1
  rw [Nat.xor_comm _ (word l a n), Nat.xor_comm _ (word m a n)] at e2
  have e3 := word_inj n (xor_cancel e2)
  intro i hi
  by_cases h1 : i < a
  · exact hb i h1
  · by_cases h2 : i < a + n
    · have := e3 (i - a) (by omega)
      rwa [show a + (i - a) = i by omega] at this
    · exact ha i (by omega) hi

theorem byte_ext {a b : UInt8} (h : ∀ k, k < 8 → (a.toNat >>> k) % 2 = (b.toNat >>> k) % 2) : a = b := by
  apply UInt8.toNat_inj.1
  apply Nat.eq_of_testBit_eq
  intro i
  by_cases hi : i < 8
  · have := h i hi
    simp only [Nat.testBit, Nat.and_comm _ 1, Nat.one_and_eq_mod_two] at *
    simp_all [Nat.and_one_is_mod]
  · rw [Nat.testBit_lt_two_pow (Nat.lt_of_lt_of_le a.toNat_lt (Nat.pow_le_pow_right (by omega) (by omega))), Nat.testBit_lt_two_pow (Nat.lt_of_lt_of_le b.toNat_lt (Nat.pow_le_pow_right (by omega) (by omega)))]
theorem text_ext {l m : List UInt8} (hlen : l.length = m.length) (h : ∀ i, i < 8 * l.length → bitAt l i = bitAt m i) : l = m := by
  apply List.ext_getElem hlen
  intro q h1 h2
  apply byte_ext
  intro k hk
  have := h (8 * q + k) (by omega)
  unfold bitAt at this
  rw [show (8 * q + k) / 8 = q by omega, show (8 * q + k) % 8 = k by omega] at this
  simpa [h1, h2] using this
end Go.Crc
