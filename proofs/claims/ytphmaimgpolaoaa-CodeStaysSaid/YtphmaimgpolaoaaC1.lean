/- Code: numbers as bytes, and back: the plain laws. -/
import Derived.Lib.Varint
import Derived.Lib.Zigzag
set_option linter.unusedVariables false
namespace Go.Proofs.Ytphmaimgpolaoaa
open Go

/-- A number's bytes. -/
def encI (n : Int) : List UInt8 := Lib.uvarint (Lib.zigzag n)
def encL (l : List Int) : List UInt8 := l.flatMap encI
theorem encL_nil : encL [] = [] := rfl
theorem encL_append (a b : List Int) : encL (a ++ b) = encL a ++ encL b := by simp [encL]
theorem encL_one (n : Int) : encL [n] = encI n := by simp [encL]
theorem encI_len {n : Int} (h0 : -9223372036854775808 ≤ n) (h1 : n ≤ 9223372036854775807) : 1 ≤ (encI n).length ∧ (encI n).length ≤ 10 :=
  ⟨Lib.uvarint_pos _, Lib.uvarint_length64 (Lib.zigzag_lt h0 h1)⟩
theorem encL_len {l : List Int} (h : ∀ x ∈ l, -9223372036854775808 ≤ x ∧ x ≤ 9223372036854775807) : (encL l).length ≤ 10 * l.length := by
  induction l with
  | nil => simp [encL]
  | cons x l ih =>
    have h1 := (encI_len (h x (by simp)).1 (h x (by simp)).2).2
    have h2 := ih (fun y hy => h y (List.mem_cons_of_mem _ hy))
    simp only [encL, List.flatMap_cons, List.length_append, List.length_cons] at h2 ⊢
    omega

/-- Back from the zig-zag. -/
def unzig (u : Nat) : Int := if u % 2 = 1 then -((u / 2 : Nat) : Int) - 1 else ((u / 2 : Nat) : Int)
theorem unzig_zigzag (n : Int) : unzig (Lib.zigzag n) = n := by
  unfold unzig Lib.zigzag
  split <;> split <;> omega
theorem zigzag_unzig (u : Nat) : Lib.zigzag (unzig u) = u := by
  unfold unzig Lib.zigzag
  split <;> split <;> omega
theorem unzig_in {u : Nat} (h : u < 18446744073709551616) : -9223372036854775808 ≤ unzig u ∧ unzig u ≤ 9223372036854775807 := by
  unfold unzig
  split <;> omega

/-- The bytes that a number begins with: 0: the number, and how many there are; 1: a byte that may not stand there, and its place; 2: the end. -/
def decF (i acc : Nat) : List UInt8 → Nat × Nat × Nat
  | [] => (2, 0, 0)
  | c :: r =>
    if (i = 9 ∧ 1 < c.toNat) ∨ (0 < i ∧ c.toNat = 0) then (1, 0, i)
    else if c.toNat < 128 then (0, acc + c.toNat * 2 ^ (7 * i), i + 1)
    else decF (i + 1) (acc + c.toNat % 128 * 2 ^ (7 * i)) r
theorem u8_toNat {x : Nat} (h : x < 256) : x.toUInt8.toNat = x := by
  simp [UInt8.toNat_ofNat', Nat.toUInt8]
  omega
theorem pow7 (i : Nat) : 2 ^ (7 * (i + 1)) = 2 ^ (7 * i) * 128 := by
  rw [Nat.mul_add, Nat.pow_add]
/-- What is put is got. -/
theorem decF_enc : ∀ (u i acc : Nat) (r : List UInt8), (0 < i → 0 < u) → u * 2 ^ (7 * i) < 18446744073709551616 → decF i acc (Lib.uvarint u ++ r) = (0, acc + u * 2 ^ (7 * i), i + (Lib.uvarint u).length) := by
  intro u
  induction u using Nat.strongRecOn with
  | ind u ih =>
    intro i acc r hi hu
    by_cases h : u < 128
    · rw [Lib.uvarint_small h]
      simp only [List.cons_append, List.nil_append, decF, List.length_cons, List.length_nil, Nat.zero_add]
      rw [u8_toNat (show u < 256 by omega), if_neg, if_pos h]
      rintro (⟨rfl, h1⟩ | ⟨h1, h2⟩)
      · have : (2 : Nat) ^ (7 * 9) = 9223372036854775808 := by decide
        rw [this] at hu
        omega
      · have := hi h1; omega
    · rw [Lib.uvarint_big (by omega)]
      simp only [List.cons_append, decF, List.length_cons]
      rw [u8_toNat (show u % 128 + 128 < 256 by omega), if_neg, if_neg (by omega), ih (u / 128) (by omega) (i + 1) _ r (by omega)]
      · rw [pow7]
        have hd : u = 128 * (u / 128) + u % 128 := by omega
        have e1 : (u % 128 + 128) % 128 = u % 128 := by omega
        rw [e1]
        generalize u / 128 = q at *
        generalize u % 128 = m at *
        generalize 2 ^ (7 * i) = P at *
        subst hd
        refine Prod.ext rfl (Prod.ext ?_ ?_)
        · show acc + m * P + q * (P * 128) = acc + (128 * q + m) * P
          rw [Nat.add_mul, show q * (P * 128) = 128 * q * P by rw [Nat.mul_comm P 128, ← Nat.mul_assoc, Nat.mul_comm q 128]]
          omega
        · show i + 1 + _ = i + (_ + 1)
          omega
      · rw [pow7]
        have : u / 128 * (2 ^ (7 * i) * 128) ≤ u * 2 ^ (7 * i) := by
          rw [Nat.mul_comm (2 ^ (7 * i)) 128, ← Nat.mul_assoc]
          exact Nat.mul_le_mul_right _ (Nat.div_mul_le_self u 128)
        omega
      · rintro (⟨rfl, h1⟩ | ⟨h1, h2⟩)
        · have e : (2 : Nat) ^ (7 * 9) = 9223372036854775808 := by decide
          rw [e] at hu
          omega
        · omega
theorem uvarint_eq (u : Nat) : Lib.uvarint u = if u < 128 then [u.toUInt8] else (u % 128 + 128).toUInt8 :: Lib.uvarint (u / 128) := by
  split
  · rename_i h; exact Lib.uvarint_small h
  · rename_i h; exact Lib.uvarint_big (by omega)
theorem toUInt8_toNat (c : UInt8) : c.toNat.toUInt8 = c := by
  apply UInt8.toNat_inj.1
  exact u8_toNat c.toNat_lt
/-- What is got is what was put. -/
theorem decF_spec : ∀ (l : List UInt8) (i acc : Nat) (v k : Nat), i ≤ 9 → decF i acc l = (0, v, k) → ∃ u, v = acc + u * 2 ^ (7 * i) ∧ (0 < i → 0 < u) ∧ u * 2 ^ (7 * i) < 18446744073709551616 ∧ i < k ∧ k - i ≤ l.length ∧ Lib.uvarint u = l.take (k - i) ∧ k ≤ 10
  | [], i, acc, v, k, _, h => by simp [decF] at h
  | c :: r, i, acc, v, k, hi9, h => by
    have hc := c.toNat_lt
    unfold decF at h
    split at h
    · simp at h
    · rename_i hn
      split at h
      · rename_i h1
        simp only [Prod.mk.injEq, true_and] at h
        obtain ⟨rfl, rfl⟩ := h
        refine ⟨c.toNat, rfl, fun hp => ?_, ?_, by omega, by simp, ?_, by omega⟩
        · rcases Nat.eq_zero_or_pos c.toNat with e | e
          · exact absurd (.inr ⟨hp, e⟩) hn
          · exact e
        · by_cases h9 : i = 9
          · subst h9
            have hle : c.toNat ≤ 1 := by
              rcases Nat.lt_or_ge 1 c.toNat with h2 | h2
              · exact absurd (.inl ⟨rfl, h2⟩) hn
              · exact h2
            have e : (2 : Nat) ^ (7 * 9) = 9223372036854775808 := by decide
            rw [e]; omega
          · have : (2 : Nat) ^ (7 * i) ≤ 2 ^ 56 := Nat.pow_le_pow_right (by decide) (by omega)
            have h2 : c.toNat * 2 ^ (7 * i) ≤ 127 * 2 ^ 56 := Nat.mul_le_mul (by omega) this
            omega
        · rw [Lib.uvarint_small h1, show i + 1 - i = 1 by omega, toUInt8_toNat]
          rfl
      · rename_i h1
        have hi8 : i + 1 ≤ 9 := by
          rcases Nat.lt_or_ge i 9 with h2 | h2
          · omega
          · exact absurd (.inl ⟨by omega, by omega⟩) hn
        obtain ⟨u, hv, hp, hlt, hk, hkl, ht, hk10⟩ := decF_spec r (i + 1) _ v k hi8 h
        have hu := hp (by omega)
        refine ⟨c.toNat % 128 + 128 * u, ?_, fun _ => by omega, ?_, by omega, by simp only [List.length_cons]; omega, ?_, hk10⟩
        · rw [hv, pow7, Nat.add_mul]
          rw [show 128 * u * 2 ^ (7 * i) = u * (2 ^ (7 * i) * 128) by rw [Nat.mul_comm 128 u, Nat.mul_assoc, Nat.mul_comm 128]]
          omega
        · rw [pow7] at hlt
          have hlt' : u * 128 * 2 ^ (7 * i) < 18446744073709551616 := by rwa [Nat.mul_comm (2 ^ (7 * i)) 128, ← Nat.mul_assoc] at hlt
          have hP : (2 : Nat) ^ (7 * i) * 2 ^ (64 - 7 * i) = 18446744073709551616 := by
            rw [← Nat.pow_add, show 7 * i + (64 - 7 * i) = 64 by omega]
          have hpos : 0 < (2 : Nat) ^ (7 * i) := Nat.pow_pos (by decide)
          have hq : (2 : Nat) ^ (64 - 7 * i) % 128 = 0 := by
            have h8 : i ≤ 8 := by omega
            have : 64 - 7 * i = 7 + (57 - 7 * i) := by omega
            rw [this, Nat.pow_add]
            omega
          have h3 : u * 128 < 2 ^ (64 - 7 * i) := by
            rw [← hP, Nat.mul_comm (2 ^ (7 * i))] at hlt'
            exact Nat.lt_of_mul_lt_mul_right hlt'
          generalize 2 ^ (64 - 7 * i) = Q at *
          have h4 : c.toNat % 128 + 128 * u < Q := by omega
          rw [← hP, Nat.mul_comm (2 ^ (7 * i)) Q]
          exact Nat.mul_lt_mul_of_pos_right h4 hpos
        · rw [Lib.uvarint_big (by omega)]
          have e1 : (c.toNat % 128 + 128 * u) % 128 + 128 = c.toNat := by omega
          have e2 : (c.toNat % 128 + 128 * u) / 128 = u := by omega
          rw [e1, e2, ht, toUInt8_toNat, show k - i = (k - (i + 1)) + 1 by omega, List.take_succ_cons]
/-- A number of a whole text's beginning. -/
theorem dec_spec {l : List UInt8} {v k : Nat} (h : decF 0 0 l = (0, v, k)) : v < 18446744073709551616 ∧ 0 < k ∧ k ≤ l.length ∧ encI (unzig v) = l.take k := by
  obtain ⟨u, hv, _, hlt, hk, hkl, ht, _⟩ := decF_spec l 0 0 v k (by omega) h
  simp at hv hlt hkl ht
  subst hv
  refine ⟨hlt, hk, hkl, ?_⟩
  unfold encI
  rw [zigzag_unzig, ht]
theorem dec_enc {n : Int} (h0 : -9223372036854775808 ≤ n) (h1 : n ≤ 9223372036854775807) (r : List UInt8) : decF 0 0 (encI n ++ r) = (0, Lib.zigzag n, (encI n).length) := by
  have := decF_enc (Lib.zigzag n) 0 0 r (by omega) (by simpa using Lib.zigzag_lt h0 h1)
  simpa [encI] using this
/-- Where it ends. -/
theorem decF_kind : ∀ (l : List UInt8) (i acc : Nat), i ≤ 9 → (∃ v k, decF i acc l = (0, v, k) ∧ i < k ∧ k ≤ i + l.length) ∨ (∃ k, decF i acc l = (1, 0, k) ∧ i ≤ k ∧ k < i + l.length) ∨ decF i acc l = (2, 0, 0)
  | [], i, acc, _ => .inr (.inr rfl)
  | c :: r, i, acc, hi => by
    unfold decF
    split
    · exact .inr (.inl ⟨i, rfl, Nat.le_refl _, by simp⟩)
    · rename_i hn
      split
      · exact .inl ⟨_, _, rfl, by omega, by simp⟩
      · rename_i h1
        have hi8 : i + 1 ≤ 9 := by
          rcases Nat.lt_or_ge i 9 with h2 | h2
          · omega
          · exact absurd (.inl ⟨by omega, by omega⟩) hn
        rcases decF_kind r (i + 1) (acc + c.toNat % 128 * 2 ^ (7 * i)) hi8 with ⟨v, k, h, h2, h3⟩ | ⟨k, h, h2, h3⟩ | h
        · exact .inl ⟨v, k, h, by omega, by simp only [List.length_cons]; omega⟩
        · exact .inr (.inl ⟨k, h, by omega, by simp only [List.length_cons]; omega⟩)
        · exact .inr (.inr h)
/-- The state of a reader behind one step of a number. -/
theorem decF_acc {i acc : Nat} (h : acc < 2 ^ (7 * i)) (c : Nat) (hc : c < 128) : acc + c * 2 ^ (7 * i) < 2 ^ (7 * (i + 1)) := by
  rw [pow7]
  have : c * 2 ^ (7 * i) ≤ 127 * 2 ^ (7 * i) := Nat.mul_le_mul_right _ (by omega)
  omega
end Go.Proofs.Ytphmaimgpolaoaa
