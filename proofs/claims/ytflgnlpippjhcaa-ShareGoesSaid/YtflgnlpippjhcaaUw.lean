/- Cut by program (cut_tpl.py) out of my templates XC1 XC2 XC3 XC4 XC5 XC6. -/
import Derived.Test.YtflgnlpippjhcaaMs
import Derived.Test.YtflgnlpippjhcaaMu
import Derived.Lib.Varint
import Derived.Lib.Zigzag
import Derived.Test.YtflgnlpippjhcaaProg
import Derived.Lib.AppendStr
import Derived.Laws.BytesString
import Derived.Lib.Hide
import Derived.Outline
import Derived.Lib.VarintBits
import Derived.Laws.Shifts
import Derived.WalkSpells
import Derived.IntWalk
import Derived.Laws.BitsAllLaws
import Derived.Deep.RegionHeld3
import Derived.Deep.RegionLaw
import Derived.BigRegion
import Derived.WalkLawsBesides
/- Code: numbers as bytes, and back: the plain laws. -/
set_option linter.unusedVariables false
set_option maxRecDepth 100000
namespace Go.Proofs.Ytflgnlpippjhcaa
open Go

/-- A number's bytes. -/
def encI (n : Int) : List UInt8 := Lib.uvarint (Lib.zigzag n)
def encL (l : List Int) : List UInt8 := l.flatMap encI
theorem encL_nil : encL [] = [] := rfl
theorem encL_append (a b : List Int) : encL (a ++ b) = encL a ++ encL b := by simp [encL]
theorem encL_one (n : Int) : encL [n] = encI n := by simp [encL]
theorem encI_len {n : Int} (h0 : -9223372036854775808 ≤ n) (h1 : n ≤ 9223372036854775807) : 1 ≤ (encI n).length ∧ (encI n).length ≤ 10 :=
  ⟨Lib.uvarint_pos _, Lib.uvarint_length64 (Lib.zigzag_lt h0 h1)⟩
theorem encL_len {l : List Int} (h : ∀ x ∈ l, -9223372036854775808 ≤ x ∧ x ≤ 9223372036854775807) : (encL l).length ≤ 10 * l.length := by
  induction l with
  | nil => simp [encL]
  | cons x l ih =>
    have h1 := (encI_len (h x (by simp)).1 (h x (by simp)).2).2
    have h2 := ih (fun y hy => h y (List.mem_cons_of_mem _ hy))
    simp only [encL, List.flatMap_cons, List.length_append, List.length_cons] at h2 ⊢
    omega

/-- Back from the zig-zag. -/
def unzig (u : Nat) : Int := if u % 2 = 1 then -((u / 2 : Nat) : Int) - 1 else ((u / 2 : Nat) : Int)
theorem unzig_zigzag (n : Int) : unzig (Lib.zigzag n) = n := by
  unfold unzig Lib.zigzag
  split <;> split <;> omega
theorem zigzag_unzig (u : Nat) : Lib.zigzag (unzig u) = u := by
  unfold unzig Lib.zigzag
  split <;> split <;> omega
theorem unzig_in {u : Nat} (h : u < 18446744073709551616) : -9223372036854775808 ≤ unzig u ∧ unzig u ≤ 9223372036854775807 := by
  unfold unzig
  split <;> omega

/-- The bytes that a number begins with: 0: the number, and how many there are; 1: a byte that may not stand there, and its place; 2: the end. -/
def decF (i acc : Nat) : List UInt8 → Nat × Nat × Nat
  | [] => (2, 0, 0)
  | c :: r =>
    if (i = 9 ∧ 1 < c.toNat) ∨ (0 < i ∧ c.toNat = 0) then (1, 0, i)
    else if c.toNat < 128 then (0, acc + c.toNat * 2 ^ (7 * i), i + 1)
    else decF (i + 1) (acc + c.toNat % 128 * 2 ^ (7 * i)) r
theorem u8_toNat {x : Nat} (h : x < 256) : x.toUInt8.toNat = x := by
  simp [UInt8.toNat_ofNat', Nat.toUInt8]
  omega
theorem pow7 (i : Nat) : 2 ^ (7 * (i + 1)) = 2 ^ (7 * i) * 128 := by
  rw [Nat.mul_add, Nat.pow_add]
/-- What is put is got. -/
theorem decF_enc : ∀ (u i acc : Nat) (r : List UInt8), (0 < i → 0 < u) → u * 2 ^ (7 * i) < 18446744073709551616 → decF i acc (Lib.uvarint u ++ r) = (0, acc + u * 2 ^ (7 * i), i + (Lib.uvarint u).length) := by
  intro u
  induction u using Nat.strongRecOn with
  | ind u ih =>
    intro i acc r hi hu
    by_cases h : u < 128
    · rw [Lib.uvarint_small h]
      simp only [List.cons_append, List.nil_append, decF, List.length_cons, List.length_nil, Nat.zero_add]
      rw [u8_toNat (show u < 256 by omega), if_neg, if_pos h]
      rintro (⟨rfl, h1⟩ | ⟨h1, h2⟩)
      · have : (2 : Nat) ^ (7 * 9) = 9223372036854775808 := by decide
        rw [this] at hu
        omega
      · have := hi h1; omega
    · rw [Lib.uvarint_big (by omega)]
      simp only [List.cons_append, decF, List.length_cons]
      rw [u8_toNat (show u % 128 + 128 < 256 by omega), if_neg, if_neg (by omega), ih (u / 128) (by omega) (i + 1) _ r (by omega)]
      · rw [pow7]
        have hd : u = 128 * (u / 128) + u % 128 := by omega
        have e1 : (u % 128 + 128) % 128 = u % 128 := by omega
        rw [e1]
        generalize u / 128 = q at *
        generalize u % 128 = m at *
        generalize 2 ^ (7 * i) = P at *
        subst hd
        refine Prod.ext rfl (Prod.ext ?_ ?_)
        · show acc + m * P + q * (P * 128) = acc + (128 * q + m) * P
          rw [Nat.add_mul, show q * (P * 128) = 128 * q * P by rw [Nat.mul_comm P 128, ← Nat.mul_assoc, Nat.mul_comm q 128]]
          omega
        · show i + 1 + _ = i + (_ + 1)
          omega
      · rw [pow7]
        have : u / 128 * (2 ^ (7 * i) * 128) ≤ u * 2 ^ (7 * i) := by
          rw [Nat.mul_comm (2 ^ (7 * i)) 128, ← Nat.mul_assoc]
          exact Nat.mul_le_mul_right _ (Nat.div_mul_le_self u 128)
        omega
      · rintro (⟨rfl, h1⟩ | ⟨h1, h2⟩)
        · have e : (2 : Nat) ^ (7 * 9) = 9223372036854775808 := by decide
          rw [e] at hu
          omega
        · omega
theorem uvarint_eq (u : Nat) : Lib.uvarint u = if u < 128 then [u.toUInt8] else (u % 128 + 128).toUInt8 :: Lib.uvarint (u / 128) := by
  split
  · rename_i h; exact Lib.uvarint_small h
  · rename_i h; exact Lib.uvarint_big (by omega)
theorem toUInt8_toNat (c : UInt8) : c.toNat.toUInt8 = c := by
  apply UInt8.toNat_inj.1
  exact u8_toNat c.toNat_lt
/-- What is got is what was put. -/
theorem decF_spec : ∀ (l : List UInt8) (i acc : Nat) (v k : Nat), i ≤ 9 → decF i acc l = (0, v, k) → ∃ u, v = acc + u * 2 ^ (7 * i) ∧ (0 < i → 0 < u) ∧ u * 2 ^ (7 * i) < 18446744073709551616 ∧ i < k ∧ k - i ≤ l.length ∧ Lib.uvarint u = l.take (k - i) ∧ k ≤ 10
  | [], i, acc, v, k, _, h => by simp [decF] at h
  | c :: r, i, acc, v, k, hi9, h => by
    have hc := c.toNat_lt
    unfold decF at h
    split at h
    · simp at h
    · rename_i hn
      split at h
      · rename_i h1
        simp only [Prod.mk.injEq, true_and] at h
        obtain ⟨rfl, rfl⟩ := h
        refine ⟨c.toNat, rfl, fun hp => ?_, ?_, by omega, by simp, ?_, by omega⟩
        · rcases Nat.eq_zero_or_pos c.toNat with e | e
          · exact absurd (.inr ⟨hp, e⟩) hn
          · exact e
        · by_cases h9 : i = 9
          · subst h9
            have hle : c.toNat ≤ 1 := by
              rcases Nat.lt_or_ge 1 c.toNat with h2 | h2
              · exact absurd (.inl ⟨rfl, h2⟩) hn
              · exact h2
            have e : (2 : Nat) ^ (7 * 9) = 9223372036854775808 := by decide
            rw [e]; omega
          · have : (2 : Nat) ^ (7 * i) ≤ 2 ^ 56 := Nat.pow_le_pow_right (by decide) (by omega)
            have h2 : c.toNat * 2 ^ (7 * i) ≤ 127 * 2 ^ 56 := Nat.mul_le_mul (by omega) this
            omega
        · rw [Lib.uvarint_small h1, show i + 1 - i = 1 by omega, toUInt8_toNat]
          rfl
      · rename_i h1
        have hi8 : i + 1 ≤ 9 := by
          rcases Nat.lt_or_ge i 9 with h2 | h2
          · omega
          · exact absurd (.inl ⟨by omega, by omega⟩) hn
        obtain ⟨u, hv, hp, hlt, hk, hkl, ht, hk10⟩ := decF_spec r (i + 1) _ v k hi8 h
        have hu := hp (by omega)
        refine ⟨c.toNat % 128 + 128 * u, ?_, fun _ => by omega, ?_, by omega, by simp only [List.length_cons]; omega, ?_, hk10⟩
        · rw [hv, pow7, Nat.add_mul]
          rw [show 128 * u * 2 ^ (7 * i) = u * (2 ^ (7 * i) * 128) by rw [Nat.mul_comm 128 u, Nat.mul_assoc, Nat.mul_comm 128]]
          omega
        · rw [pow7] at hlt
          have hlt' : u * 128 * 2 ^ (7 * i) < 18446744073709551616 := by rwa [Nat.mul_comm (2 ^ (7 * i)) 128, ← Nat.mul_assoc] at hlt
          have hP : (2 : Nat) ^ (7 * i) * 2 ^ (64 - 7 * i) = 18446744073709551616 := by
            rw [← Nat.pow_add, show 7 * i + (64 - 7 * i) = 64 by omega]
          have hpos : 0 < (2 : Nat) ^ (7 * i) := Nat.pow_pos (by decide)
          have hq : (2 : Nat) ^ (64 - 7 * i) % 128 = 0 := by
            have h8 : i ≤ 8 := by omega
            have : 64 - 7 * i = 7 + (57 - 7 * i) := by omega
            rw [this, Nat.pow_add]
            omega
          have h3 : u * 128 < 2 ^ (64 - 7 * i) := by
            rw [← hP, Nat.mul_comm (2 ^ (7 * i))] at hlt'
            exact Nat.lt_of_mul_lt_mul_right hlt'
          generalize 2 ^ (64 - 7 * i) = Q at *
          have h4 : c.toNat % 128 + 128 * u < Q := by omega
          rw [← hP, Nat.mul_comm (2 ^ (7 * i)) Q]
          exact Nat.mul_lt_mul_of_pos_right h4 hpos
        · rw [Lib.uvarint_big (by omega)]
          have e1 : (c.toNat % 128 + 128 * u) % 128 + 128 = c.toNat := by omega
          have e2 : (c.toNat % 128 + 128 * u) / 128 = u := by omega
          rw [e1, e2, ht, toUInt8_toNat, show k - i = (k - (i + 1)) + 1 by omega, List.take_succ_cons]
/-- A number of a whole text's beginning. -/
theorem dec_spec {l : List UInt8} {v k : Nat} (h : decF 0 0 l = (0, v, k)) : v < 18446744073709551616 ∧ 0 < k ∧ k ≤ l.length ∧ encI (unzig v) = l.take k := by
  obtain ⟨u, hv, _, hlt, hk, hkl, ht, _⟩ := decF_spec l 0 0 v k (by omega) h
  simp at hv hlt hkl ht
  subst hv
  refine ⟨hlt, hk, hkl, ?_⟩
  unfold encI
  rw [zigzag_unzig, ht]
theorem dec_enc {n : Int} (h0 : -9223372036854775808 ≤ n) (h1 : n ≤ 9223372036854775807) (r : List UInt8) : decF 0 0 (encI n ++ r) = (0, Lib.zigzag n, (encI n).length) := by
  have := decF_enc (Lib.zigzag n) 0 0 r (by omega) (by simpa using Lib.zigzag_lt h0 h1)
  simpa [encI] using this
/-- Where it ends. -/
theorem decF_kind : ∀ (l : List UInt8) (i acc : Nat), i ≤ 9 → (∃ v k, decF i acc l = (0, v, k) ∧ i < k ∧ k ≤ i + l.length) ∨ (∃ k, decF i acc l = (1, 0, k) ∧ i ≤ k ∧ k < i + l.length) ∨ decF i acc l = (2, 0, 0)
  | [], i, acc, _ => .inr (.inr rfl)
  | c :: r, i, acc, hi => by
    unfold decF
    split
    · exact .inr (.inl ⟨i, rfl, Nat.le_refl _, by simp⟩)
    · rename_i hn
      split
      · exact .inl ⟨_, _, rfl, by omega, by simp⟩
      · rename_i h1
        have hi8 : i + 1 ≤ 9 := by
          rcases Nat.lt_or_ge i 9 with h2 | h2
          · omega
          · exact absurd (.inl ⟨by omega, by omega⟩) hn
        rcases decF_kind r (i + 1) (acc + c.toNat % 128 * 2 ^ (7 * i)) hi8 with ⟨v, k, h, h2, h3⟩ | ⟨k, h, h2, h3⟩ | h
        · exact .inl ⟨v, k, h, by omega, by simp only [List.length_cons]; omega⟩
        · exact .inr (.inl ⟨k, h, by omega, by simp only [List.length_cons]; omega⟩)
        · exact .inr (.inr h)
/-- The state of a reader behind one step of a number. -/
theorem decF_acc {i acc : Nat} (h : acc < 2 ^ (7 * i)) (c : Nat) (hc : c < 128) : acc + c * 2 ^ (7 * i) < 2 ^ (7 * (i + 1)) := by
  rw [pow7]
  have : c * 2 ^ (7 * i) ≤ 127 * 2 ^ (7 * i) := Nat.mul_le_mul_right _ (by omega)
  omega
end Go.Proofs.Ytflgnlpippjhcaa

/- Code: bytes in memory. -/
set_option linter.unusedVariables false
namespace Go.Proofs.Ytflgnlpippjhcaa
open Go.RowKit Go.Sort

def byt (bs : List UInt8) : List Value := bs.map fun b => .int .u8 b.toNat
theorem byt_length (bs : List UInt8) : (byt bs).length = bs.length := by simp [byt]
theorem byt_append (a b : List UInt8) : byt (a ++ b) = byt a ++ byt b := by simp [byt]
theorem byt_str (s : ByteArray) : Lib.strCells s = byt s.data.toList := rfl
/-- The slice value '.slice A n c' reads as these bytes. -/
def ReadsB (w : World) (A : Option Addr) (n : Nat) (bs : List UInt8) : Prop :=
  bs.length = n ∧ n ≤ 9223372036854775807 ∧ (0 < n → ∃ ad, A = some ad ∧ ∀ j, j < n → w.cell? (ad.add j) = some (.int .u8 (bs.getD j 0).toNat))
theorem ReadsB.below {w w' : World} {A : Option Addr} {n : Nat} {xs : List UInt8} (h : ReadsB w A n xs) (hb : Below w.heap.size w w') : ReadsB w' A n xs :=
  ⟨h.1, h.2.1, fun hn => by
    obtain ⟨ad, e, hc⟩ := h.2.2 hn
    exact ⟨ad, e, fun j hj => (hb.cell (block_lt_of_cell (hc j hj))).trans (hc j hj)⟩⟩
theorem ReadsB.turn {w w' : World} {A : Option Addr} {n : Nat} {xs : List UInt8} {ex : Nat → Prop} (h : ReadsB w A n xs) (ht : Turn ex w w') (hA : 0 < n → ∀ a, A = some a → ¬ ex a.block) : ReadsB w' A n xs :=
  ⟨h.1, h.2.1, fun hn => by
    obtain ⟨ad, e, hc⟩ := h.2.2 hn
    refine ⟨ad, e, fun j hj => ?_⟩
    have hl := block_lt_of_cell (hc j hj)
    rw [← hc j hj]
    exact World.cell?_of_block (ht.block _ hl (by rw [add_block]; exact hA hn ad e))⟩
theorem ReadsI.turn {w w' : World} {A : Option Addr} {n : Nat} {xs : List Int} {ex : Nat → Prop} (h : ReadsI w A n xs) (ht : Turn ex w w') (hA : 0 < n → ∀ a, A = some a → ¬ ex a.block) : ReadsI w' A n xs :=
  ⟨h.1, h.2.1, fun hn => by
    obtain ⟨ad, e, hc⟩ := h.2.2 hn
    refine ⟨ad, e, fun j hj => ?_⟩
    have hl := block_lt_of_cell (hc j hj)
    rw [← hc j hj]
    exact World.cell?_of_block (ht.block _ hl (by rw [add_block]; exact hA hn ad e))⟩
theorem ReadsB.nil (w : World) : ReadsB w none 0 [] := ⟨rfl, by omega, fun h => absurd h (by omega)⟩
theorem takeB_snoc (xs : List UInt8) (k : Nat) (h : k < xs.length) : xs.take (k + 1) = xs.take k ++ [xs.getD k 0] := by
  rw [List.take_succ_eq_append_getElem h]
  simp [List.getD_eq_getElem?_getD, List.getElem?_eq_getElem h]
/-- What a row of bytes reads as. -/
theorem rowB_reads {w : World} {base n : Nat} {e : TypeId} {v : Value} {xs : List UInt8} (h : w.ownsRow base e 1 v n (byt xs)) : ∃ A c, v = .slice A n c ∧ ReadsB w A n xs ∧ n ≤ c ∧ (∀ a, A = some a → v.ownBlock = some a.block) := by
  have hl : xs.length = n := by have := h.1; simp [byt] at this; exact this
  rcases Nat.eq_zero_or_pos n with h0 | h0
  · rcases h.2 with ⟨rfl, rfl⟩ | ⟨g, cap, cur, rfl, _⟩
    · exact ⟨none, 0, rfl, ⟨hl, by omega, fun hp => absurd hp (by omega)⟩, by omega, fun a ha => by cases ha⟩
    · exact ⟨_, cap, rfl, ⟨hl, by omega, fun hp => absurd hp (by omega)⟩, by omega, fun a ha => by cases ha; rfl⟩
  · obtain ⟨g, cap, rfl, _, _⟩ := h.form h0
    have hm : n ≤ 9223372036854775807 ∧ n ≤ cap := by
      rcases h.2 with ⟨_, h1⟩ | ⟨g', cap', cur, he, _, _, h1, h2, _⟩
      · omega
      · simp only [maxLen] at h2
        injection he with _ _ he
        omega
    refine ⟨_, cap, rfl, ⟨hl, hm.1, fun _ => ⟨_, rfl, fun j hj => h.cells (g := g) rfl j _ ?_⟩⟩, hm.2, fun a ha => by cases ha; rfl⟩
    simp [byt, List.getElem?_eq_getElem (show j < xs.length by omega), List.getD_eq_getElem?_getD]
/-- A row's value is a slice of its length. -/
theorem row_form {w : World} {base size n : Nat} {e : TypeId} {v : Value} {xs : List Value} (h : w.ownsRow base e size v n xs) : ∃ A c, v = .slice A n c := by
  rcases h.2 with ⟨rfl, rfl⟩ | ⟨g, cap, cur, rfl, _⟩
  · exact ⟨none, 0, rfl⟩
  · exact ⟨_, cap, rfl⟩
theorem info_u8 : (Try.prog.info? 5).map (fun i => (i.zero, i.size, i.bytes)) = some (some (.int .u8 0), 1, 1) := by kernel_rfl

section
variable {ops : Array Oper} {rest : List Oper} {o : Oper} {a : Act} {Q : Exit → Act → World → Prop} {w W : World} {ex : Nat → Prop} {l : List Own}
/-- append(s, x...): x a block that is known whole, of bytes; s a row of bytes that is owned. -/
theorem append_bytes (h : Ms w ex l W) (i j : Nat) (hgd : o.guard = none) (s x : Operand) (ho : o.op = .call { callee := .builtin .append, args := #[s, x], argTypes := #[58, 58] })
    (v : Value) (bs ys : List UInt8) (g : Nat) (cs : Array Value) (hs : a.eval s = v) (hrow : l[i]? = some (.row 5 1 v bs.length (byt bs))) (hx : a.eval x = .slice (some ⟨g, 0, none⟩) ys.length ys.length)
    (hblk : l[j]? = some (.blk g 5 cs)) (hcs : cs.toList = byt ys) (hlen : bs.length + ys.length ≤ 140737488355328) (zs : List UInt8) (hz : bs ++ ys = zs)
    (hK : ∀ A' c' W', Ms w ex (l.set i (.row 5 1 (.slice A' zs.length c') zs.length (byt zs))) W' → wpList Try.prog ops Q rest (a.put o.dst (.slice A' zs.length c')) W') : wpList Try.prog ops Q (o :: rest) a W := by
  subst hz
  obtain ⟨i0, hi, hzz⟩ := Option.map_eq_some_iff.1 info_u8
  simp only [Prod.mk.injEq] at hzz
  obtain ⟨hz0, hz1, hz2⟩ := hzz
  have hown := h.own i hrow
  have hB := h.at_ j hblk
  refine wpList_plain hgd fun K hK' => ?_
  obtain ⟨v', w', hr, h2, h3, _, h5⟩ := run_append_own_at (P := Try.prog) W 0 58 o.type 5 i0 (.int .u8 0) 1 1 Try.underlying58 hi hz0 hz1 hz2 rfl (by omega) v bs.length (byt bs) hown ⟨g, 0, none⟩ ys.length ys.length (byt ys)
    (by rw [byt_length, Nat.mul_one]) (fun k u hu => by rw [add_plain, hB.cell, ← hu, ← hcs]; simp) (fun u hu => by simp only [byt, List.mem_map] at hu; obtain ⟨b, _, rfl⟩ := hu; rfl) (by simp only [maxLen]; omega) (by omega) (Nat.zero_le _)
  unfold Oper.wp execOp
  simp only [ho, resolve, invoke, builtin, Sem.run_bind, Sem.run_pure, Result.andThen_ok, List.map_toArray, List.map_cons, List.map_nil, hs, hx, hr]
  have h2' : w'.ownsRow 0 5 1 v' (bs ++ ys).length (byt (bs ++ ys)) := by rw [byt_append, List.length_append]; exact h2
  obtain ⟨A', c', rfl⟩ := row_form h2'
  refine hK' _ _ (hK A' c' w' (h.grown i hrow h2' h3 ?_))
  rcases h5 with h5 | h5
  · exact .inl h5
  · exact .inr (.inl h5)
theorem run_append_str_at (w : World) (ty : TypeId) (v : Value) (n : Nat) (xs : List Value) (hown : w.ownsRow 0 5 1 v n xs) (s : ByteArray) (hlen : n + s.size ≤ 140737488355328) :
    ∃ v' w', (Builtin.append_ #[58, 9] ty #[v, .string s]).run Try.prog w = .ok v' w' ∧ w'.ownsRow 0 5 1 v' (n + s.size) (xs ++ Lib.strCells s) ∧ w.grownBy w' v.ownBlock ∧ (v'.ownBlock = v.ownBlock ∨ v'.ownBlock = some w.heap.size ∨ v'.ownBlock = none) := by
  obtain ⟨i0, hi, hzz⟩ := Option.map_eq_some_iff.1 info_u8
  simp only [Prod.mk.injEq] at hzz
  obtain ⟨hz0, hz1, hz2⟩ := hzz
  obtain ⟨v', w', hr, h2, h3, h4⟩ := Lib.run_append_own_string (P := Try.prog) w 0 58 9 ty 5 i0 Try.underlying58 Try.underlying9 hi hz0 hz1 hz2 v n xs hown s (by simp only [maxLen]; omega) hlen (Nat.zero_le _)
  refine ⟨v', w', hr, h2, h3, ?_⟩
  rcases hown.2 with ⟨rfl, rfl⟩ | ⟨g, cap, cur, rfl, hbg, hg, hnc, hcm, hcs, htake⟩
  · by_cases hm : s.size = 0
    · have := h4.2 ⟨rfl, hm⟩
      subst this
      exact .inl rfl
    · have hr2 := run_append_nil_string (P := Try.prog) w 58 9 ty 5 i0 (.int .u8 0) Try.underlying58 Try.underlying9 hi hz0 s (by omega) (by omega) (by rw [hz2]; omega)
      rw [hr] at hr2
      injection hr2 with e1 _
      subst e1
      exact .inr (.inl rfl)
  · by_cases hroom : n + s.size ≤ cap
    · have hr2 := Lib.run_append_room_string (P := Try.prog) w 58 9 ty 5 i0 Try.underlying58 Try.underlying9 hi hz1 g n cap cur hg s hroom (by omega)
      rw [hr] at hr2
      injection hr2 with e1 _
      subst e1
      exact .inl rfl
    · have hr2 := Lib.run_append_grow_string (P := Try.prog) w 58 9 ty 5 i0 (.int .u8 0) Try.underlying58 Try.underlying9 hi hz0 ⟨g, 0, none⟩ n cap xs (by rw [hz1]; exact hown.1) (hown.cells (g := g) rfl) s (by omega) (by omega) (by rw [hz2]; exact growslice_fits (by omega) (by omega))
      rw [hr] at hr2
      injection hr2 with e1 _
      subst e1
      exact .inr (.inl rfl)
theorem append_text (h : Ms w ex l W) (i : Nat) (hgd : o.guard = none) (s x : Operand) (ho : o.op = .call { callee := .builtin .append, args := #[s, x], argTypes := #[58, 9] })
    (v : Value) (bs : List UInt8) (y : ByteArray) (hs : a.eval s = v) (hrow : l[i]? = some (.row 5 1 v bs.length (byt bs))) (hx : a.eval x = .string y) (hlen : bs.length + y.size ≤ 140737488355328) (zs : List UInt8) (hz : bs ++ y.data.toList = zs)
    (hK : ∀ A' c' W', Ms w ex (l.set i (.row 5 1 (.slice A' zs.length c') zs.length (byt zs))) W' → wpList Try.prog ops Q rest (a.put o.dst (.slice A' zs.length c')) W') : wpList Try.prog ops Q (o :: rest) a W := by
  subst hz
  have hown := h.own i hrow
  refine wpList_plain hgd fun K hK' => ?_
  obtain ⟨v', w', hr, h2, h3, h5⟩ := run_append_str_at W o.type v bs.length (byt bs) hown y hlen
  unfold Oper.wp execOp
  simp only [ho, resolve, invoke, builtin, Sem.run_bind, Sem.run_pure, Result.andThen_ok, List.map_toArray, List.map_cons, List.map_nil, hs, hx, hr]
  have h2' : w'.ownsRow 0 5 1 v' (bs ++ y.data.toList).length (byt (bs ++ y.data.toList)) := by rw [byt_append, List.length_append, ← byt_str]; exact h2
  obtain ⟨A', c', rfl⟩ := row_form h2'
  exact hK' _ _ (hK A' c' w' (h.grown i hrow h2' h3 h5))
end

/-! ### bytes as a text -/
def strOf (bs : List UInt8) : ByteArray := ⟨bs.toArray⟩
theorem strOf_size (bs : List UInt8) : (strOf bs).size = bs.length := by show bs.toArray.size = _; simp
theorem strOf_toList (bs : List UInt8) : (strOf bs).toList = bs := by rw [ByteArray.toList_eq]; simp [strOf]
theorem strOf_data (s : ByteArray) : strOf s.data.toList = s := by simp [strOf]
theorem push_fold : ∀ (bs : List UInt8) (s : ByteArray), (bs.map fun b => (b.toNat : Int)).foldl (fun r n => r.push (UInt8.ofNat n.toNat)) s = ⟨s.data ++ bs.toArray⟩
  | [], s => by simp
  | b :: bs, s => by
    simp only [List.map_cons, List.foldl_cons]
    rw [push_fold bs]
    simp [ByteArray.push]
theorem run_bytes_text {w : World} {A : Option Addr} {n c : Nat} {bs : List UInt8} (h : ReadsB w A n bs) (src dst e : TypeId) (hs : Try.prog.underlying src = some (.slice e)) (he : Try.prog.underlying e = some (.int .u8)) (hd : Try.prog.underlying dst = some .string) :
    (convert src dst (.slice A n c)).run Try.prog w = .ok (.string (strOf bs)) w := by
  rw [run_convert_bytes_string w src dst e A n c hs he hd]
  rcases Nat.eq_zero_or_pos n with h0 | h0
  · have hb : bs = [] := List.eq_nil_of_length_eq_zero (by rw [h.1]; exact h0)
    subst hb; subst h0
    cases A with
    | none => rfl
    | some ad =>
      exact run_bytesToString (P := Try.prog) w ad 0 c [] rfl
  · obtain ⟨ad, rfl, hc⟩ := h.2.2 h0
    have hl : (loadCells ad n).run Try.prog w = .ok ((bs.map fun b => (b.toNat : Int)).map (Value.int .u8)).toArray w := by
      have := run_loadCells_list (P := Try.prog) w ad (byt bs) (fun j v hv => by
        have hj : j < bs.length := by
          rcases Nat.lt_or_ge j bs.length with h1 | h1
          · exact h1
          · rw [List.getElem?_eq_none (by simpa [byt] using h1)] at hv; cases hv
        rw [hc j (by rw [← h.1]; exact hj), ← hv]
        simp [byt, List.getElem?_eq_getElem hj, List.getD_eq_getElem?_getD])
      rw [byt_length, h.1] at this
      rw [this]
      simp [byt]
    rw [run_bytesToString (P := Try.prog) w ad n c _ hl, push_fold]
    simp [strOf]
end Go.Proofs.Ytflgnlpippjhcaa

/- Code: the writer. -/
set_option linter.unusedVariables false
namespace Go.Proofs.Ytflgnlpippjhcaa
open Go.RowKit Go.Sort

/-- The slice of a row of bytes. -/
abbrev slB (A : Option Addr) (c : Nat) (bs : List UInt8) : Value := .slice A bs.length c
abbrev rowB (A : Option Addr) (c : Nat) (bs : List UInt8) : Own := .row 5 1 (slB A c bs) bs.length (byt bs)
abbrev blkW (g : Nat) (A : Option Addr) (c : Nat) (bs : List UInt8) : Own := .blk g 86 #[slB A c bs]
/-- A writer: its cell, and its bytes in a row. -/
def Own.wr (g : Nat) (A : Option Addr) (c : Nat) (bs : List UInt8) : Own where
  bl k := k = g ∨ (slB A c bs).ownBlock = some k
  ok W := (blkW g A c bs).ok W ∧ (rowB A c bs).ok W ∧ (slB A c bs).ownBlock ≠ some g
  lt W h k hk := hk.elim (fun h1 => (blkW g A c bs).lt W h.1 k h1) (fun h1 => (rowB A c bs).lt W h.2.1 k h1)
  keep W W' hk h := ⟨(blkW g A c bs).keep W W' (fun k h1 => hk k (.inl h1)) h.1, (rowB A c bs).keep W W' (fun k h1 => hk k (.inr h1)) h.2.1, h.2.2⟩
theorem Own.wr_open {g : Nat} {A : Option Addr} {c : Nat} {bs : List UInt8} {w : World} (h : (Own.wr g A c bs).ok w) : Ms w (Own.wr g A c bs).bl [blkW g A c bs, rowB A c bs] w :=
  (Ms.start2 (a := blkW g A c bs) (b := rowB A c bs) h.1 h.2.1 (fun k hk hk' => h.2.2 (by have e : k = g := hk; subst e; exact hk'))).exc (fun k hk => hk)
theorem Own.wr_shut {g : Nat} {A A' : Option Addr} {c c' : Nat} {bs bs' : List UInt8} {w W : World} (h : Ms w (Own.wr g A c bs).bl [blkW g A' c' bs', rowB A' c' bs'] W) : Ms w (Own.wr g A c bs).bl [.wr g A' c' bs'] W :=
  h.join (fun h1 h2 => ⟨h1, h2, fun e => h.apart 0 1 _ _ rfl rfl (by decide) g rfl e⟩) (fun k hk => hk)
/-- What a writer's method leaves. -/
def WrPost (w : World) (g : Nat) (A : Option Addr) (c : Nat) (bs bs' : List UInt8) (e : Ending) (W : World) : Prop := e = .returned (.tuple #[]) ∧ ∃ A' c', Ms w (Own.wr g A c bs).bl [.wr g A' c' bs'] W

theorem zz_pos {n : Int} (h0 : 0 ≤ n) (h1 : n ≤ 9223372036854775807) : bits .xor .u64 (n * 2) 0 = ((Lib.zigzag n : Nat) : Int) := by
  have e : n * 2 = (((2 * n).toNat : Nat) : Int) := by omega
  have e0 : (0 : Int) = ((0 : Nat) : Int) := rfl
  rw [e, e0, bits_xor_u64_nat _ _ (by omega) (by decide), Nat.xor_zero]
  unfold Lib.zigzag
  rw [if_pos h0]
theorem zz_neg {n : Int} (h0 : -9223372036854775808 ≤ n) (h1 : n < 0) : bits .xor .u64 (IntKind.u64.wrap (IntKind.u64.wrap n * 2)) (IntKind.u64.wrap (-1)) = ((Lib.zigzag n : Nat) : Int) := by
  rw [← Lib.zigzag_neg h0 h1]
  show IntKind.u64.wrap _ = IntKind.u64.wrap _
  rw [BitVec.xor_comm]
  rfl
theorem zz {n : Int} (h0 : -9223372036854775808 ≤ n) (h1 : n ≤ 9223372036854775807) : bits .xor .u64 (IntKind.u64.wrap (IntKind.u64.wrap n * 2)) (IntKind.u64.wrap (n / 9223372036854775808)) = ((Lib.zigzag n : Nat) : Int) := by
  rcases Int.lt_or_le n 0 with h | h
  · rw [show n / 9223372036854775808 = -1 by omega]
    exact zz_neg h0 h
  · rw [show n / 9223372036854775808 = 0 by omega, show IntKind.u64.wrap (IntKind.u64.wrap n * 2) = n * 2 by rw [IntKind.wrap_u64, IntKind.wrap_u64]; omega]
    exact zz_pos h h1
theorem byte_lo (U : Nat) : IntKind.u8.wrap (U : Int) = ((U % 256 : Nat) : Int) := by simp [IntKind.wrap, IntKind.bits, IntKind.signed]
theorem byte_hi (U : Nat) : bits .or .u8 ((U % 256 : Nat) : Int) 128 = ((U % 128 + 128 : Nat) : Int) := by
  rw [Lib.u8_or128_any _ (by omega) (by omega)]
  omega

theorem lit_u8 {x : Nat} (h : x < 256) : (#[Value.int .u8 ((x : Nat) : Int)] : Array Value).toList = byt [x.toUInt8] := by
  simp [byt, u8_toNat h]
theorem u64_div7 {U : Nat} (h : 128 ≤ U) : Lib.uvarint U = (U % 128 + 128).toUInt8 :: Lib.uvarint (U / 128) := Lib.uvarint_big h
set_option maxRecDepth 100000 in
set_option maxHeartbeats 4000000 in
theorem wInt_c (g : Nat) (B : Option Addr) (d : Nat) (bs : List UInt8) (A : Option Addr) (m c : Nat) (xs : List Int) (w : World) (hO : (Own.wr g B d bs).ok w) (hR : ReadsI w A m xs) (hx : ∀ x ∈ xs, -9223372036854775808 ≤ x ∧ x ≤ 9223372036854775807)
    (hA : 0 < m → ∀ a, A = some a → ¬ (Own.wr g B d bs).bl a.block) (hlen : bs.length + 10 * m ≤ 140737488355328) :
    Calls Try.prog 42 #[.pointer (some ⟨g, 0, none⟩), .slice A m c] w (WrPost w g B d bs (bs ++ encL xs)) := by
  have HS0 := Lib.hid (Own.wr_open hO)
  have HR := Lib.hid hR
  have HX := Lib.hid hx
  have HA := Lib.hid hA
  have HN := Lib.hid hlen
  have HM := Lib.hid hR.1
  clear hO hR hx hA hlen
  go_enter Try.func42, Try.ntmps42
  go_wp2_with fail
  go_loopw [11] (fun i wr => ∃ (k : Nat) (A' : Option Addr) (c' : Nat), k ≤ m ∧ i = .int .i64 k ∧ Ms w (Own.wr g B d bs).bl [blkW g A' c' (bs ++ encL (xs.take k)), rowB A' c' (bs ++ encL (xs.take k))] wr) (fun i _ => m - (intOf i).toNat)
  case atStart => exact ⟨0, B, d, by omega, rfl, by simpa [encL] using HS0.out⟩
  case round =>
    obtain ⟨k, A', c', hk, rfl, hS⟩ := hrel
    clear HS0
    have HS1 := Lib.hid hS
    clear hS
    have hkb : (k : Int) < 140737488355328 := by have := HN.out; omega
    by_cases hlt : k < m
    · obtain ⟨ad, hAe, hcell⟩ := HR.out.2.2 (by omega)
      subst hAe
      have hc := (HS1.out.turn.block _ (block_lt_of_cell (hcell k hlt)) (by rw [add_block]; exact HA.out (by omega) ad rfl))
      have hcc := (World.cell?_of_block (a := ad.add k) hc).trans (hcell k hlt)
      clear hc hcell
      obtain ⟨x, hxe⟩ : ∃ x, x = xs.getD k 0 := ⟨_, rfl⟩
      rw [← hxe] at hcc
      have HXE := Lib.hid hxe
      clear hxe
      have hxx : -9223372036854775808 ≤ x ∧ x ≤ 9223372036854775807 := by
        rw [HXE.out]
        refine HX.out _ ?_
        rw [List.getD_eq_getElem?_getD, List.getElem?_eq_getElem (show k < xs.length by rw [HM.out]; exact hlt)]
        exact List.getElem_mem _
      have HZ := Lib.hid (zz hxx.1 hxx.2)
      have HU := Lib.hid (Lib.zigzag_lt hxx.1 hxx.2)
      have HE := Lib.hid (show encI x = Lib.uvarint (Lib.zigzag x) from rfl)
      have HT := Lib.hid (show encL (xs.take (k + 1)) = encL (xs.take k) ++ encI x by rw [HXE.out, take_snoc xs k (by rw [HM.out]; exact hlt), encL_append, encL_one])
      have hl1 := encL_len (l := xs.take k) (fun y hy => HX.out y (List.mem_of_mem_take hy))
      rw [List.length_take] at hl1
      have HL := Lib.hid (show (bs ++ encL (xs.take k)).length + (encI x).length ≤ 140737488355328 by have := HN.out; have := (encI_len hxx.1 hxx.2).2; have := HM.out; rw [List.length_append]; omega)
      clear hxx hl1
      go_wp2_with fail
      rw [HZ.out]
      clear HZ
      obtain ⟨out, hout⟩ : ∃ out, out = bs ++ encL (xs.take k) := ⟨_, rfl⟩
      rw [← hout] at HS1 HL
      have HO := Lib.hid hout
      clear hout
      obtain ⟨U0, hU0⟩ : ∃ U, U = Lib.zigzag x := ⟨_, rfl⟩
      rw [← hU0] at HU HE ⊢
      clear hU0
      go_loopw [6] (fun u wr2 => ∃ (U : Nat) (A2 : Option Addr) (c2 : Nat) (done : List UInt8), u = .int .u64 U ∧ U < 18446744073709551616 ∧ done ++ Lib.uvarint U = out ++ encI x ∧ Ms w (Own.wr g B d bs).bl [blkW g A2 c2 done, rowB A2 c2 done] wr2) (fun u _ => (intOf u).toNat)
      case atStart => exact ⟨U0, A', c', out, rfl, HU.out, by rw [HE.out], HS1.out⟩
      case round =>
        obtain ⟨U, A2, c2, done, rfl, hU, hd, hS⟩ := hrel
        clear HS1
        have HS2 := Lib.hid hS
        have HD := Lib.hid hd
        have HB := Lib.hid (show done.length + 1 ≤ 140737488355328 by
          have h1 := congrArg List.length hd
          rw [List.length_append, List.length_append] at h1
          have := HL.out
          have := Lib.uvarint_pos U
          omega)
        clear hS hd hcc
        obtain ⟨r1, r2, r3⟩ := HS2.out.rules 0 rfl
        by_cases hlt2 : U < 128
        · have hb : (((U : Nat) : Int) / 128 != 0) = false := by simp; omega
          have HC := Lib.hid (lit_u8 (x := U) (by omega))
          obtain ⟨nx, hnx⟩ : ∃ nx, nx = bs ++ encL (xs.take (k + 1)) := ⟨_, rfl⟩
          have HF := Lib.hid (show done ++ [U.toUInt8] = nx by rw [hnx, HT.out, ← List.append_assoc, ← HO.out, ← HD.out, Lib.uvarint_small hlt2])
          have HG := Lib.hid hnx
          clear hnx
          go_wp2_with (first
            | (refine wpList_build_b rfl (some 46) rfl 5 1 #[.int .u8 (U : Nat)] (by kernel_rfl) ?_; intro g3 W3 hb3 hB3 hg3; have HS3 := Lib.hid (HS2.out.new hb3 hB3 hg3); clear hb3 hB3 hg3 HS2 r1 r2 r3)
            | (refine append_bytes HS3.out 1 2 rfl (.tmp 43) (.tmp 46) rfl _ done [U.toUInt8] _ _ rfl rfl rfl rfl HC.out HB.out nx HF.out ?_; intro A4 c4 W4 hM; have HS4 := Lib.hid hM; clear hM HS3)
            | (refine wpList_store_at rfl 58 _ _ rfl (HS4.out.at_ 0 rfl) _ rfl rfl (by kernel_rfl) (Nat.le_of_ble_eq_true rfl) (by kernel_rfl) ?_; intro W5 hB hP; have HS5 := Lib.hid (HS4.out.put 0 rfl (new := #[slB A4 c4 nx]) hB hP); clear hB hP HS4))
          refine ⟨⟨k + 1, A4, c4, by omega, by go_num, ?_⟩, by simp [intOf]; omega⟩
          rw [← HG.out]
          exact Ms.cut (l := [blkW g A4 c4 nx, rowB A4 c4 nx]) (k := [.blk g3 5 #[.int .u8 (U : Nat)]]) HS5.out
        · have hb : (((U : Nat) : Int) / 128 != 0) = true := by simp; omega
          obtain ⟨Y, hY⟩ : ∃ Y : Nat, Y = U % 128 + 128 := ⟨_, rfl⟩
          have HC := Lib.hid (lit_u8 (x := Y) (by omega))
          obtain ⟨nx, hnx⟩ : ∃ nx, nx = done ++ [Y.toUInt8] := ⟨_, rfl⟩
          have HF := Lib.hid hnx.symm
          have HG := Lib.hid (show nx ++ Lib.uvarint (U / 128) = out ++ encI x by rw [hnx, hY, ← HD.out, u64_div7 (U := U) (Nat.le_of_not_lt hlt2), List.append_assoc]; rfl)
          have hw2 : bits .or .u8 ((U : Int) % 256) 128 = (Y : Int) := by rw [Lib.u8_or128_any _ (by omega) (by omega)]; omega
          clear hnx hY
          go_wp2_with (first
            | (refine wpList_build_b rfl (some 35) rfl 5 1 #[.int .u8 (Y : Nat)] (by kernel_rfl) ?_; intro g3 W3 hb3 hB3 hg3; have HS3 := Lib.hid (HS2.out.new hb3 hB3 hg3); clear hb3 hB3 hg3 HS2 r1 r2 r3)
            | (refine append_bytes HS3.out 1 2 rfl (.tmp 31) (.tmp 35) rfl _ done [Y.toUInt8] _ _ rfl rfl rfl rfl HC.out HB.out nx HF.out ?_; intro A4 c4 W4 hM; have HS4 := Lib.hid hM; clear hM HS3)
            | (refine wpList_store_at rfl 58 _ _ rfl (HS4.out.at_ 0 rfl) _ rfl rfl (by kernel_rfl) (Nat.le_of_ble_eq_true rfl) (by kernel_rfl) ?_; intro W5 hB hP; have HS5 := Lib.hid (HS4.out.put 0 rfl (new := #[slB A4 c4 nx]) hB hP); clear hB hP HS4))
          refine ⟨⟨U / 128, A4, c4, nx, rfl, by omega, HG.out, Ms.cut (l := [blkW g A4 c4 nx, rowB A4 c4 nx]) (k := [.blk g3 5 #[.int .u8 (Y : Nat)]]) HS5.out⟩, by simp [intOf]; omega⟩
    · have HE := Lib.hid (show bs ++ encL (xs.take k) = bs ++ encL xs by rw [List.take_of_length_le (by rw [HM.out]; omega)])
      go_wp2_with fail
      go_end0
      rw [HE.out] at HS1
      exact ⟨rfl, A', c', Own.wr_shut HS1.out⟩
end Go.Proofs.Ytflgnlpippjhcaa

/- Code: the writer's Text, Nodes, Bytes. -/
set_option linter.unusedVariables false
namespace Go.Proofs.Ytflgnlpippjhcaa
open Go.RowKit Go.Sort

section
variable {w W : World} {ex : Nat → Prop} {l : List Own}
theorem cons_key {a c : Own} {i : Nat} (h : (a :: l)[i]? = some c) : (i = 0 ∧ c = a) ∨ (∃ j, i = j + 1 ∧ l[j]? = some c) := by
  cases i with
  | zero => simp at h; exact .inl ⟨rfl, h.symm⟩
  | succ i => simp at h; exact .inr ⟨i, rfl, h⟩
/-- The first is seen as two. -/
theorem Ms.split {a b o : Own} (h : Ms w ex (o :: l) W) (ha : a.ok W) (hb : b.ok W) (hbl : ∀ k, a.bl k ∨ b.bl k → o.bl k) (hab : ∀ k, a.bl k → ¬ b.bl k) : Ms w ex (a :: b :: l) W := by
  have key : ∀ (i : Nat) (c : Own), (a :: b :: l)[i]? = some c → (i = 0 ∧ c = a) ∨ (i = 1 ∧ c = b) ∨ (∃ j, i = j + 2 ∧ (o :: l)[j + 1]? = some c) := fun i c hi => by
    match i, hi with
    | 0, hi => simp at hi; exact .inl ⟨rfl, hi.symm⟩
    | 1, hi => simp at hi; exact .inr (.inl ⟨rfl, hi.symm⟩)
    | i + 2, hi => exact .inr (.inr ⟨i, rfl, by simpa using hi⟩)
  refine ⟨fun i c hi => ?_, fun i c hi k hk => ?_, fun i j c d hi hj hij k hk => ?_, h.turn⟩
  · rcases key i c hi with ⟨_, e⟩ | ⟨_, e⟩ | ⟨j, _, e⟩
    · rw [e]; exact ha
    · rw [e]; exact hb
    · exact h.ok _ c e
  · rcases key i c hi with ⟨_, e⟩ | ⟨_, e⟩ | ⟨j, _, e⟩
    · rw [e] at hk; exact h.lo 0 o rfl k (hbl k (.inl hk))
    · rw [e] at hk; exact h.lo 0 o rfl k (hbl k (.inr hk))
    · exact h.lo _ c e k hk
  · rcases key i c hi with ⟨f, e⟩ | ⟨f, e⟩ | ⟨i', f, e⟩ <;> rcases key j d hj with ⟨f2, e2⟩ | ⟨f2, e2⟩ | ⟨j', f2, e2⟩
    · omega
    · rw [e] at hk; rw [e2]; exact hab k hk
    · rw [e] at hk; exact h.apart 0 _ o d rfl e2 (by omega) k (hbl k (.inl hk))
    · rw [e] at hk; rw [e2]; exact fun h1 => hab k h1 hk
    · omega
    · rw [e] at hk; exact h.apart 0 _ o d rfl e2 (by omega) k (hbl k (.inr hk))
    · rw [e2]; exact fun h1 => h.apart 0 _ o c rfl e (by omega) k (hbl k (.inl h1)) hk
    · rw [e2]; exact fun h1 => h.apart 0 _ o c rfl e (by omega) k (hbl k (.inr h1)) hk
    · exact h.apart _ _ c d e e2 (by omega) k hk
/-- The first two are seen as one. -/
theorem Ms.joined {a b o : Own} (h : Ms w ex (a :: b :: l) W) (hok : o.ok W) (hbl : ∀ k, o.bl k → a.bl k ∨ b.bl k) : Ms w ex (o :: l) W := by
  have key : ∀ (i : Nat) (c : Own), (o :: l)[i]? = some c → (i = 0 ∧ c = o) ∨ (∃ j, i = j + 1 ∧ (a :: b :: l)[j + 2]? = some c) := fun i c hi => by
    match i, hi with
    | 0, hi => simp at hi; exact .inl ⟨rfl, hi.symm⟩
    | i + 1, hi => exact .inr ⟨i, rfl, by simpa using hi⟩
  refine ⟨fun i c hi => ?_, fun i c hi k hk => ?_, fun i j c d hi hj hij k hk => ?_, h.turn⟩
  · rcases key i c hi with ⟨_, e⟩ | ⟨j, _, e⟩
    · rw [e]; exact hok
    · exact h.ok _ c e
  · rcases key i c hi with ⟨_, e⟩ | ⟨j, _, e⟩
    · rw [e] at hk
      rcases hbl k hk with h1 | h1
      · exact h.lo 0 a rfl k h1
      · exact h.lo 1 b rfl k h1
    · exact h.lo _ c e k hk
  · rcases key i c hi with ⟨f, e⟩ | ⟨i', f, e⟩ <;> rcases key j d hj with ⟨f2, e2⟩ | ⟨j', f2, e2⟩
    · omega
    · rw [e] at hk
      rcases hbl k hk with h1 | h1
      · exact h.apart 0 _ a d rfl e2 (by omega) k h1
      · exact h.apart 1 _ b d rfl e2 (by omega) k h1
    · rw [e2]
      intro h1
      rcases hbl k h1 with h2 | h2
      · exact h.apart 0 _ a c rfl e (by omega) k h2 hk
      · exact h.apart 1 _ b c rfl e (by omega) k h2 hk
    · exact h.apart _ _ c d e e2 (by omega) k hk
theorem Ms.wrOpen {g : Nat} {A : Option Addr} {c : Nat} {bs : List UInt8} (h : Ms w ex (.wr g A c bs :: l) W) : Ms w ex (blkW g A c bs :: rowB A c bs :: l) W :=
  have ho := h.ok 0 _ rfl
  h.split ho.1 ho.2.1 (fun k hk => hk) (fun k hk hk' => ho.2.2 (by have e : k = g := hk; subst e; exact hk'))
theorem Ms.wrShut {g : Nat} {A : Option Addr} {c : Nat} {bs : List UInt8} (h : Ms w ex (blkW g A c bs :: rowB A c bs :: l) W) : Ms w ex (.wr g A c bs :: l) W :=
  h.joined ⟨h.ok 0 _ rfl, h.ok 1 _ rfl, fun e => h.apart 0 1 _ _ rfl rfl (by decide) g rfl e⟩ (fun k hk => hk)
end
/-- The slice value '.slice A n c' reads as these texts. -/
def ReadsS (w : World) (A : Option Addr) (n : Nat) (ts : List ByteArray) : Prop :=
  ts.length = n ∧ n ≤ 9223372036854775807 ∧ (0 < n → ∃ ad, A = some ad ∧ ∀ j, j < n → w.cell? (ad.add j) = some (.string (ts.getD j .empty)))
def encT (t : ByteArray) : List UInt8 := encI t.size ++ t.data.toList
def encTs (l : List ByteArray) : List UInt8 := l.flatMap encT
theorem encTs_append (a b : List ByteArray) : encTs (a ++ b) = encTs a ++ encTs b := by simp [encTs]
theorem encTs_one (t : ByteArray) : encTs [t] = encT t := by simp [encTs]
theorem takeS_snoc (xs : List ByteArray) (k : Nat) (h : k < xs.length) : xs.take (k + 1) = xs.take k ++ [xs.getD k .empty] := by
  rw [List.take_succ_eq_append_getElem h]
  simp [List.getD_eq_getElem?_getD, List.getElem?_eq_getElem h]
theorem encTs_le (ts : List ByteArray) (k : Nat) : (encTs (ts.take k)).length ≤ (encTs ts).length := by
  have h := congrArg List.length (encTs_append (ts.take k) (ts.drop k))
  rw [List.take_append_drop, List.length_append] at h
  omega
theorem lit_int (x : Int) {w : World} {g : Nat} (h : Blk w g 3 #[.int .i64 x]) : ReadsI w (some ⟨g, 0, none⟩) 1 [x] :=
  ⟨rfl, by omega, fun _ => ⟨_, rfl, fun j hj => by
    have e : j = 0 := by omega
    subst e
    rw [add_plain, h.cell]
    rfl⟩⟩
set_option maxRecDepth 100000 in
set_option maxHeartbeats 4000000 in
theorem wText_c (g : Nat) (B : Option Addr) (d : Nat) (bs : List UInt8) (A : Option Addr) (m c : Nat) (ts : List ByteArray) (w : World) (hO : (Own.wr g B d bs).ok w) (hR : ReadsS w A m ts) (hm : m ≤ 140737488355328)
    (hA : 0 < m → ∀ a, A = some a → ¬ (Own.wr g B d bs).bl a.block) (hlen : bs.length + (encTs ts).length ≤ 140737488355000) :
    Calls Try.prog 43 #[.pointer (some ⟨g, 0, none⟩), .slice A m c] w (WrPost w g B d bs (bs ++ encTs ts)) := by
  have HS0 := Lib.hid (Ms.start hO)
  have HR := Lib.hid hR
  have HA := Lib.hid hA
  have HN := Lib.hid hlen
  have HM := Lib.hid hR.1
  have HK := Lib.hid hm
  clear hO hR hA hlen hm
  go_enter Try.func43, Try.ntmps43
  go_wp2_with fail
  go_loopw [10] (fun i wr => ∃ (k : Nat) (A' : Option Addr) (c' : Nat), k ≤ m ∧ i = .int .i64 k ∧ Ms w (Own.wr g B d bs).bl [.wr g A' c' (bs ++ encTs (ts.take k))] wr) (fun i _ => m - (intOf i).toNat)
  case atStart => exact ⟨0, B, d, by omega, rfl, by simpa [encTs] using HS0.out⟩
  case round =>
    obtain ⟨k, A', c', hk, rfl, hS⟩ := hrel
    clear HS0
    have HS1 := Lib.hid hS
    clear hS
    have hkb : (k : Int) ≤ 140737488355328 := by have := HK.out; omega
    by_cases hlt : k < m
    · obtain ⟨ad, hAe, hcell⟩ := HR.out.2.2 (by omega)
      subst hAe
      have hc := (HS1.out.turn.block _ (block_lt_of_cell (hcell k hlt)) (by rw [add_block]; exact HA.out (by omega) ad rfl))
      have hcc := (World.cell?_of_block (a := ad.add k) hc).trans (hcell k hlt)
      clear hc hcell
      obtain ⟨x, hxe⟩ : ∃ x, x = ts.getD k .empty := ⟨_, rfl⟩
      rw [← hxe] at hcc
      have hT : encTs (ts.take (k + 1)) = encTs (ts.take k) ++ encT x := by rw [hxe, takeS_snoc ts k (by rw [HM.out]; exact hlt), encTs_append, encTs_one]
      have hl1 := encTs_le ts (k + 1)
      rw [hT, List.length_append] at hl1
      have hx1 : (encT x).length = (encI x.size).length + x.size := by unfold encT; rw [List.length_append]; rfl
      clear hxe
      obtain ⟨out, hout⟩ : ∃ out, out = bs ++ encTs (ts.take k) := ⟨_, rfl⟩
      have hol : out.length = bs.length + (encTs (ts.take k)).length := by rw [hout, List.length_append]
      have hxs : x.size ≤ 140737488355328 := by have := HN.out; omega
      have HL := Lib.hid (show out.length + 10 * 1 ≤ 140737488355328 by have := HN.out; omega)
      have HL2 := Lib.hid (show (out ++ encL [((x.size : Nat) : Int)]).length + x.size ≤ 140737488355328 by rw [encL_one, List.length_append]; have := HN.out; omega)
      have HX := Lib.hid (show ∀ y ∈ [((x.size : Nat) : Int)], -9223372036854775808 ≤ y ∧ y ≤ 9223372036854775807 from fun y hy => by simp at hy; omega)
      obtain ⟨nx, hnx⟩ : ∃ nx, nx = bs ++ encTs (ts.take (k + 1)) := ⟨_, rfl⟩
      have HF := Lib.hid (show (out ++ encL [((x.size : Nat) : Int)]) ++ x.data.toList = nx by rw [hnx, hT, encL_one, hout]; unfold encT; simp)
      rw [← hout] at HS1
      have HG := Lib.hid hnx
      clear hnx hout hl1 hx1 hol hT
      go_wp2_with (first
        | (refine wpList_build_b rfl (some 17) rfl 3 1 #[.int .i64 (x.size : Nat)] (by kernel_rfl) ?_; intro g3 W3 hb3 hB3 hg3; have HS3 := Lib.hid (HS1.out.new hb3 hB3 hg3); clear hb3 hB3 hg3 HS1 hcc))
      refine (wInt_c g A' c' out _ 1 1 [((x.size : Nat) : Int)] _ (HS3.out.ok 0 _ rfl) (lit_int _ (HS3.out.at_ 1 rfl)) HX.out (fun _ a ha => by cases ha; exact fun h1 => HS3.out.apart 0 1 _ _ rfl rfl (by decide) _ h1 rfl) HL.out).mono ?_
      rintro e W4 ⟨rfl, A4, c4, hM⟩
      have HS4 := Lib.hid (Ms.cut (l := [.wr g A4 c4 (out ++ encL [((x.size : Nat) : Int)])]) (k := [.blk g3 3 #[.int .i64 (x.size : Nat)]]) (HS3.out.call 0 rfl hM)).wrOpen
      clear hM HS3
      obtain ⟨mid, hmid⟩ : ∃ mid, mid = out ++ encL [((x.size : Nat) : Int)] := ⟨_, rfl⟩
      rw [← hmid] at HS4 HL2 HF
      clear hmid
      obtain ⟨r1, r2, r3⟩ := HS4.out.rules 0 rfl
      go_wp2_with (first
        | (refine append_text HS4.out 1 rfl (.tmp 23) (.tmp 24) rfl _ mid x rfl rfl rfl HL2.out nx HF.out ?_; intro A5 c5 W5 hM; have HS5 := Lib.hid hM; clear hM HS4 r1 r2 r3)
        | (refine wpList_store_at rfl 58 _ _ rfl (HS5.out.at_ 0 rfl) _ rfl rfl (by kernel_rfl) (Nat.le_of_ble_eq_true rfl) (by kernel_rfl) ?_; intro W6 hB hP; have HS6 := Lib.hid (HS5.out.put 0 rfl (new := #[slB A5 c5 nx]) hB hP); clear hB hP HS5))
      refine ⟨⟨k + 1, A5, c5, by omega, by go_num, ?_⟩, by simp [intOf]; omega⟩
      rw [← HG.out]
      exact Ms.wrShut HS6.out
    · have HE := Lib.hid (show bs ++ encTs (ts.take k) = bs ++ encTs ts by rw [List.take_of_length_le (by rw [HM.out]; omega)])
      go_wp2_with fail
      go_end0
      rw [HE.out] at HS1
      exact ⟨rfl, A', c', HS1.out⟩
end Go.Proofs.Ytflgnlpippjhcaa

/- Code: the writer's Nodes, Bytes. -/
set_option linter.unusedVariables false
namespace Go.Proofs.Ytflgnlpippjhcaa
open Go.RowKit Go.Sort

def ndV (x0 x1 x2 x3 : Nat) : Value := .agg #[.int .u64 (x0 : Nat), .int .u64 (x1 : Nat), .int .u64 (x2 : Nat), .int .u64 (x3 : Nat)]
def encW (x : Nat) : List UInt8 := (List.range 8).map fun k => (x / 256 ^ k % 256).toUInt8
def wdAt (x0 x1 x2 x3 : Nat) : Nat → Nat
  | 0 => x0
  | 1 => x1
  | 2 => x2
  | _ => x3
def encN (x0 x1 x2 x3 : Nat) : List UInt8 := encW x0 ++ (encW x1 ++ (encW x2 ++ encW x3))
def encNk (x0 x1 x2 x3 k : Nat) : List UInt8 := (List.range k).flatMap fun i => encW (wdAt x0 x1 x2 x3 i)
theorem encNk_succ (x0 x1 x2 x3 k : Nat) : encNk x0 x1 x2 x3 (k + 1) = encNk x0 x1 x2 x3 k ++ encW (wdAt x0 x1 x2 x3 k) := by
  unfold encNk; rw [List.range_succ, List.flatMap_append]; simp
theorem encNk_four (x0 x1 x2 x3 : Nat) : encNk x0 x1 x2 x3 4 = encN x0 x1 x2 x3 := by simp [encNk, encN, List.range_succ, wdAt]
theorem encW_len (x : Nat) : (encW x).length = 8 := by simp [encW]
theorem encN_len (x0 x1 x2 x3 : Nat) : (encN x0 x1 x2 x3).length = 32 := by simp [encN, encW_len]
theorem encNk_len (x0 x1 x2 x3 k : Nat) : (encNk x0 x1 x2 x3 k).length = 8 * k := by
  induction k with
  | zero => rfl
  | succ k ih => rw [encNk_succ, List.length_append, ih, encW_len]; omega
def encWk (x k : Nat) : List UInt8 := (List.range k).map fun k => (x / 256 ^ k % 256).toUInt8
theorem encWk_succ (x k : Nat) : encWk x (k + 1) = encWk x k ++ [(x / 256 ^ k % 256).toUInt8] := by
  unfold encWk; rw [List.range_succ, List.map_append]; rfl
theorem encWk_len (x k : Nat) : (encWk x k).length = k := by simp [encWk]
theorem Ms.allocd {w W : World} {ex : Nat → Prop} {l : List Own} (h : Ms w ex l W) (t : TypeId) (cs : Array Value) : Ms w ex (l ++ [.blk W.heap.size t cs]) (W.alloc (.cells cs t)) :=
  h.new ((Below.refl _ _).alloc (Nat.le_refl _) _) (Blk.new _ _ _) (Nat.le_refl _)
theorem Ms.set {w W : World} {ex : Nat → Prop} {l : List Own} (h : Ms w ex l W) (i k : Nat) (v : Value) {g : Nat} {t : TypeId} {old new : Array Value} (hi : l[i]? = some (.blk g t old)) (hn : old.setIfInBounds k v = new) : Ms w ex (l.set i (.blk g t new)) (W.setCell ⟨g, k, none⟩ v) :=
  h.put i hi (hn ▸ (h.at_ i hi).set_ k v) (put_setCell W g k v)
/-- append at a step of a region that draws its order. -/
theorem step_append_bytes {ops : Array Oper} {o : Oper} {a : Act} {K : Act → World → Prop} {Q : Exit → Act → World → Prop} {E : Prop} {w W : World} {ex : Nat → Prop} {l : List Own} (h : Ms w ex l W) (i j : Nat) (hgd : o.guard = none) (s x : Operand) (ho : o.op = .call { callee := .builtin .append, args := #[s, x], argTypes := #[58, 58] })
    (v : Value) (bs ys : List UInt8) (g : Nat) (cs : Array Value) (hs : a.eval s = v) (hrow : l[i]? = some (.row 5 1 v bs.length (byt bs))) (hx : a.eval x = .slice (some ⟨g, 0, none⟩) ys.length ys.length)
    (hblk : l[j]? = some (.blk g 5 cs)) (hcs : cs.toList = byt ys) (hlen : bs.length + ys.length ≤ 140737488355328) (zs : List UInt8) (hz : bs ++ ys = zs)
    (hK : ∀ A' c' W', Ms w ex (l.set i (.row 5 1 (.slice A' zs.length c') zs.length (byt zs))) W' → K (a.put o.dst (.slice A' zs.length c')) W') :
    if Region.wanted o (yielded ops a.tmps) = true then Oper.wp Try.prog o a W K Q else E := by
  subst hz
  have hw : Region.wanted o (yielded ops a.tmps) = true := by simp [Region.wanted, hgd]
  rw [if_pos hw]
  obtain ⟨i0, hi, hzz⟩ := Option.map_eq_some_iff.1 info_u8
  simp only [Prod.mk.injEq] at hzz
  obtain ⟨hz0, hz1, hz2⟩ := hzz
  have hown := h.own i hrow
  have hB := h.at_ j hblk
  obtain ⟨v', w', hr, h2, h3, _, h5⟩ := run_append_own_at (P := Try.prog) W 0 58 o.type 5 i0 (.int .u8 0) 1 1 Try.underlying58 hi hz0 hz1 hz2 rfl (by omega) v bs.length (byt bs) hown ⟨g, 0, none⟩ ys.length ys.length (byt ys)
    (by rw [byt_length, Nat.mul_one]) (fun k u hu => by rw [add_plain, hB.cell, ← hu, ← hcs]; simp) (fun u hu => by simp only [byt, List.mem_map] at hu; obtain ⟨b, _, rfl⟩ := hu; rfl) (by simp only [maxLen]; omega) (by omega) (Nat.zero_le _)
  unfold Oper.wp execOp
  simp only [ho, resolve, invoke, builtin, Sem.run_bind, Sem.run_pure, Result.andThen_ok, List.map_toArray, List.map_cons, List.map_nil, hs, hx, hr]
  have h2' : w'.ownsRow 0 5 1 v' (bs ++ ys).length (byt (bs ++ ys)) := by rw [byt_append, List.length_append]; exact h2
  obtain ⟨A', c', rfl⟩ := row_form h2'
  refine hK A' c' w' (h.grown i hrow h2' h3 ?_)
  rcases h5 with h5 | h5
  · exact .inl h5
  · exact .inr (.inl h5)
end Go.Proofs.Ytflgnlpippjhcaa

/- Code: slices.Clone, the writer's Bytes, New, Same. -/
set_option linter.unusedVariables false
namespace Go.Proofs.Ytflgnlpippjhcaa
open Go.RowKit Go.Sort

@[go_sem] theorem eql_slice_none (l c : Nat) (w : World) : (binOp .eql 58 (.slice none l c) (.slice none 0 0)).run Try.prog w = .ok (.bool true) w := by kernel_rfl
@[go_sem] theorem eql_slice_some (a : Addr) (l c : Nat) (w : World) : (binOp .eql 58 (.slice (some a) l c) (.slice none 0 0)).run Try.prog w = .ok (.bool false) w := by kernel_rfl
theorem run_append_read {w : World} (ty : TypeId) (v : Value) (bs ys : List UInt8) (A : Option Addr) (m c : Nat) (hown : w.ownsRow 0 5 1 v bs.length (byt bs)) (hR : ReadsB w A m ys) (hc : A = none → c = 0) (hlen : bs.length + m ≤ 140737488355328) :
    ∃ A' c' w', (Builtin.append_ #[58, 58] ty #[v, .slice A m c]).run Try.prog w = .ok (.slice A' (bs ++ ys).length c') w' ∧ w'.ownsRow 0 5 1 (.slice A' (bs ++ ys).length c') (bs ++ ys).length (byt (bs ++ ys)) ∧ w.grownBy w' v.ownBlock ∧
      ((Value.slice A' (bs ++ ys).length c').ownBlock = v.ownBlock ∨ (Value.slice A' (bs ++ ys).length c').ownBlock = some w.heap.size) := by
  obtain ⟨i0, hi, hzz⟩ := Option.map_eq_some_iff.1 info_u8
  simp only [Prod.mk.injEq] at hzz
  obtain ⟨hz0, hz1, hz2⟩ := hzz
  cases A with
  | none =>
    have hm : m = 0 := by
      rcases Nat.eq_zero_or_pos m with h | h
      · exact h
      · obtain ⟨ad, h1, _⟩ := hR.2.2 h; cases h1
    have hc0 := hc rfl
    subst hm; subst hc0
    have hy : ys = [] := List.eq_nil_of_length_eq_zero hR.1
    subst hy
    have hr := run_append_owned_none (P := Try.prog) w 0 58 ty 5 i0 1 Try.underlying58 hi v bs.length (byt bs) hown
    obtain ⟨A', c', rfl⟩ := row_form hown
    exact ⟨A', c', w, by simpa using hr, by simpa using hown, ⟨rfl, rfl, rfl, Nat.le_refl _, fun _ _ _ => rfl⟩, .inl (by simp [Value.ownBlock])⟩
  | some ad =>
    have hl := hR.1
    obtain ⟨v', w', hr, h2, h3, _, h5⟩ := run_append_own_at (P := Try.prog) w 0 58 ty 5 i0 (.int .u8 0) 1 1 Try.underlying58 hi hz0 hz1 hz2 rfl (by omega) v bs.length (byt bs) hown ad m c (byt ys)
      (by rw [byt_length, Nat.mul_one, hl]) (fun k u hu => by
        have hk : k < ys.length := by
          rcases Nat.lt_or_ge k ys.length with h1 | h1
          · exact h1
          · rw [List.getElem?_eq_none (by simpa [byt] using h1)] at hu; cases hu
        obtain ⟨ad', e, hcell⟩ := hR.2.2 (by omega)
        cases e
        rw [hcell k (by omega), ← hu]
        simp [byt, List.getElem?_eq_getElem hk, List.getD_eq_getElem?_getD]) (fun u hu => by simp only [byt, List.mem_map] at hu; obtain ⟨b, _, rfl⟩ := hu; rfl) (by simp only [maxLen]; omega) (by omega) (Nat.zero_le _)
    have h2' : w'.ownsRow 0 5 1 v' (bs ++ ys).length (byt (bs ++ ys)) := by rw [byt_append, List.length_append, hl]; exact h2
    obtain ⟨A', c', rfl⟩ := row_form h2'
    exact ⟨A', c', w', hr, h2', h3, h5⟩
section
variable {ops : Array Oper} {rest : List Oper} {o : Oper} {a : Act} {Q : Exit → Act → World → Prop} {w W : World} {ex : Nat → Prop} {l : List Own}
/-- append(s, x...): x a slice that is read. -/
theorem append_read (h : Ms w ex l W) (i : Nat) (hgd : o.guard = none) (s x : Operand) (ho : o.op = .call { callee := .builtin .append, args := #[s, x], argTypes := #[58, 58] })
    (v : Value) (bs ys : List UInt8) (A : Option Addr) (m c : Nat) (hs : a.eval s = v) (hrow : l[i]? = some (.row 5 1 v bs.length (byt bs))) (hx : a.eval x = .slice A m c)
    (hR : ReadsB W A m ys) (hc : A = none → c = 0) (hlen : bs.length + m ≤ 140737488355328) (zs : List UInt8) (hz : bs ++ ys = zs)
    (hK : ∀ A' c' W', Ms w ex (l.set i (rowB A' c' zs)) W' → wpList Try.prog ops Q rest (a.put o.dst (slB A' c' zs)) W') : wpList Try.prog ops Q (o :: rest) a W := by
  subst hz
  have hown := h.own i hrow
  refine wpList_plain hgd fun K hK' => ?_
  obtain ⟨A', c', w', hr, h2, h3, h5⟩ := run_append_read o.type v bs ys A m c hown hR hc hlen
  unfold Oper.wp execOp
  simp only [ho, resolve, invoke, builtin, Sem.run_bind, Sem.run_pure, Result.andThen_ok, List.map_toArray, List.map_cons, List.map_nil, hs, hx, hr]
  refine hK' _ _ (hK A' c' w' (h.grown i hrow h2 h3 ?_))
  rcases h5 with h5 | h5
  · exact .inl h5
  · exact .inr (.inl h5)
/-- A row of nothing. -/
theorem Ms.nilRow (h : Ms w ex l W) : Ms w ex (l ++ [rowB none 0 []]) W :=
  h.more (o := rowB none 0 []) ⟨rfl, .inl ⟨rfl, rfl⟩⟩ (fun k hk => by have h1 : (slB none 0 []).ownBlock = some k := hk; cases h1) (fun i b hi k hk hk' => by have h1 : (slB none 0 []).ownBlock = some k := hk'; cases h1)
end
/-- A slice of bytes that a callee made. -/
def NewB (w : World) (bs : List UInt8) (e : Ending) (W : World) : Prop := ∃ A c, e = .returned (slB A c bs) ∧ Ms w noB [rowB A c bs] W
set_option maxRecDepth 100000 in
set_option maxHeartbeats 4000000 in
theorem clone_c (A : Option Addr) (n c : Nat) (bs : List UInt8) (w : World) (hR : ReadsB w A n bs) (hc : A = none → c = 0) (hlen : n ≤ 140737488355328) :
    Calls Try.prog 61 #[.slice A n c] w (NewB w bs) := by
  cases A with
  | none =>
    have hm : n = 0 := by
      rcases Nat.eq_zero_or_pos n with h | h
      · exact h
      · obtain ⟨ad, h1, _⟩ := hR.2.2 h; cases h1
    have hc0 := hc rfl
    subst hm; subst hc0
    have hb : bs = [] := List.eq_nil_of_length_eq_zero hR.1
    subst hb
    clear hR hc hlen
    go_enter Try.func61, Try.ntmps61
    go_wp2
    go_ret
    exact ⟨none, 0, rfl, (Ms.nil w noB).nilRow⟩
  | some ad =>
    have HR := Lib.hid hR
    have HN := Lib.hid (show ([] : List UInt8).length + n ≤ 140737488355328 by simpa using hlen)
    clear hR hc hlen
    go_enter Try.func61, Try.ntmps61
    have HS0 := Lib.hid (Ms.nil w noB)
    go_wp2_with (first
      | (refine wpList_build_b rfl (some 5) rfl 5 0 #[] (by kernel_rfl) ?_; intro g1 W1 hb hB hg; have HR1 := Lib.hid (HR.out.below hb); have HS1 := Lib.hid (HS0.out.newRow (n := 0) (size := 1) hb hB hg rfl (Nat.zero_le _)); clear hb hB hg HS0)
      | (refine append_read HS1.out 0 rfl (.tmp 5) (.tmp 6) rfl _ [] bs (some ad) n c rfl rfl rfl HR1.out (fun h => by cases h) HN.out bs rfl ?_; intro A2 c2 W2 hM; have HS2 := Lib.hid hM; clear hM HS1))
    go_ret
    exact ⟨A2, c2, rfl, HS2.out⟩
/-- What a writer's row reads as. -/
theorem rowB_read {w : World} {A : Option Addr} {c : Nat} {bs : List UInt8} (h : (rowB A c bs).ok w) : ReadsB w A bs.length bs ∧ (A = none → c = 0) := by
  have h' : w.ownsRow 0 5 1 (slB A c bs) bs.length (byt bs) := h
  obtain ⟨A', c', e, hR, _, _⟩ := rowB_reads h'
  injection e with e1 _ e3
  subst e1; subst e3
  refine ⟨hR, fun hn => ?_⟩
  rcases h'.2 with ⟨e, _⟩ | ⟨g, cap, cur, e, _⟩
  · injection e
  · injection e with e1 _ _
    rw [hn] at e1; cases e1
set_option maxRecDepth 100000 in
set_option maxHeartbeats 4000000 in
theorem wBytes_c (g : Nat) (B : Option Addr) (d : Nat) (bs : List UInt8) (w : World) (hO : (Own.wr g B d bs).ok w) (hlen : bs.length ≤ 140737488355328) :
    Calls Try.prog 44 #[.pointer (some ⟨g, 0, none⟩)] w (NewB w bs) := by
  have HB := Lib.hid hO.1
  have hr := rowB_read hO.2.1
  have HC := Lib.hid (fun w' hb => clone_c B bs.length d bs w' (ReadsB.below hr.1 hb) hr.2 hlen)
  clear hr hO hlen
  go_enter Try.func44, Try.ntmps44
  obtain ⟨r1, r2, r3⟩ := (show Blk w g _ _ from HB.out).rules
  go_wp2_with fail
  refine (HC.out w (Below.refl _ _)).mono ?_
  rintro e W1 ⟨A1, c1, rfl, hM⟩
  have HM := Lib.hid hM
  clear hM
  go_wp2
  go_ret
  exact ⟨A1, c1, rfl, HM.out⟩
theorem same_eq (a b : List UInt8) : ((strOf a).toList == (strOf b).toList) = decide (a = b) := by
  rw [strOf_toList, strOf_toList]
  by_cases h : a = b
  · simp [h]
  · simp [h]
end Go.Proofs.Ytflgnlpippjhcaa

