/- Code: bytes in memory. -/
import Derived.Test.YtphmaimgpolaoaaMs
import Derived.Test.YtphmaimgpolaoaaProg
import Derived.Lib.AppendStr
import Derived.Laws.BytesString
import Derived.Lib.Hide
import Derived.Outline
set_option linter.unusedVariables false
namespace Go.Proofs.Ytphmaimgpolaoaa
open Go.RowKit Go.Sort

def byt (bs : List UInt8) : List Value := bs.map fun b => .int .u8 b.toNat
theorem byt_length (bs : List UInt8) : (byt bs).length = bs.length := by simp [byt]
theorem byt_append (a b : List UInt8) : byt (a ++ b) = byt a ++ byt b := by simp [byt]
theorem byt_str (s : ByteArray) : Lib.strCells s = byt s.data.toList := rfl
/-- The slice value '.slice A n c' reads as these bytes. -/
def ReadsB (w : World) (A : Option Addr) (n : Nat) (bs : List UInt8) : Prop :=
  bs.length = n ∧ n ≤ 9223372036854775807 ∧ (0 < n → ∃ ad, A = some ad ∧ ∀ j, j < n → w.cell? (ad.add j) = some (.int .u8 (bs.getD j 0).toNat))
theorem ReadsB.below {w w' : World} {A : Option Addr} {n : Nat} {xs : List UInt8} (h : ReadsB w A n xs) (hb : Below w.heap.size w w') : ReadsB w' A n xs :=
  ⟨h.1, h.2.1, fun hn => by
    obtain ⟨ad, e, hc⟩ := h.2.2 hn
    exact ⟨ad, e, fun j hj => (hb.cell (block_lt_of_cell (hc j hj))).trans (hc j hj)⟩⟩
theorem ReadsB.turn {w w' : World} {A : Option Addr} {n : Nat} {xs : List UInt8} {ex : Nat → Prop} (h : ReadsB w A n xs) (ht : Turn ex w w') (hA : 0 < n → ∀ a, A = some a → ¬ ex a.block) : ReadsB w' A n xs :=
  ⟨h.1, h.2.1, fun hn => by
    obtain ⟨ad, e, hc⟩ := h.2.2 hn
    refine ⟨ad, e, fun j hj => ?_⟩
    have hl := block_lt_of_cell (hc j hj)
    rw [← hc j hj]
    exact World.cell?_of_block (ht.block _ hl (by rw [add_block]; exact hA hn ad e))⟩
theorem ReadsI.turn {w w' : World} {A : Option Addr} {n : Nat} {xs : List Int} {ex : Nat → Prop} (h : ReadsI w A n xs) (ht : Turn ex w w') (hA : 0 < n → ∀ a, A = some a → ¬ ex a.block) : ReadsI w' A n xs :=
  ⟨h.1, h.2.1, fun hn => by
    obtain ⟨ad, e, hc⟩ := h.2.2 hn
    refine ⟨ad, e, fun j hj => ?_⟩
    have hl := block_lt_of_cell (hc j hj)
    rw [← hc j hj]
    exact World.cell?_of_block (ht.block _ hl (by rw [add_block]; exact hA hn ad e))⟩
theorem ReadsB.nil (w : World) : ReadsB w none 0 [] := ⟨rfl, by omega, fun h => absurd h (by omega)⟩
theorem takeB_snoc (xs : List UInt8) (k : Nat) (h : k < xs.length) : xs.take (k + 1) = xs.take k ++ [xs.getD k 0] := by
  rw [List.take_succ_eq_append_getElem h]
  simp [List.getD_eq_getElem?_getD, List.getElem?_eq_getElem h]
/-- What a row of bytes reads as. -/
theorem rowB_reads {w : World} {base n : Nat} {e : TypeId} {v : Value} {xs : List UInt8} (h : w.ownsRow base e 1 v n (byt xs)) : ∃ A c, v = .slice A n c ∧ ReadsB w A n xs ∧ n ≤ c ∧ (∀ a, A = some a → v.ownBlock = some a.block) := by
  have hl : xs.length = n := by have := h.1; simp [byt] at this; exact this
  rcases Nat.eq_zero_or_pos n with h0 | h0
  · rcases h.2 with ⟨rfl, rfl⟩ | ⟨g, cap, cur, rfl, _⟩
    · exact ⟨none, 0, rfl, ⟨hl, by omega, fun hp => absurd hp (by omega)⟩, by omega, fun a ha => by cases ha⟩
    · exact ⟨_, cap, rfl, ⟨hl, by omega, fun hp => absurd hp (by omega)⟩, by omega, fun a ha => by cases ha; rfl⟩
  · obtain ⟨g, cap, rfl, _, _⟩ := h.form h0
    have hm : n ≤ 9223372036854775807 ∧ n ≤ cap := by
      rcases h.2 with ⟨_, h1⟩ | ⟨g', cap', cur, he, _, _, h1, h2, _⟩
      · omega
      · simp only [maxLen] at h2
        injection he with _ _ he
        omega
    refine ⟨_, cap, rfl, ⟨hl, hm.1, fun _ => ⟨_, rfl, fun j hj => h.cells (g := g) rfl j _ ?_⟩⟩, hm.2, fun a ha => by cases ha; rfl⟩
    simp [byt, List.getElem?_eq_getElem (show j < xs.length by omega), List.getD_eq_getElem?_getD]
/-- A row's value is a slice of its length. -/
theorem row_form {w : World} {base size n : Nat} {e : TypeId} {v : Value} {xs : List Value} (h : w.ownsRow base e size v n xs) : ∃ A c, v = .slice A n c := by
  rcases h.2 with ⟨rfl, rfl⟩ | ⟨g, cap, cur, rfl, _⟩
  · exact ⟨none, 0, rfl⟩
  · exact ⟨_, cap, rfl⟩
theorem info_u8 : (Try.prog.info? 5).map (fun i => (i.zero, i.size, i.bytes)) = some (some (.int .u8 0), 1, 1) := by kernel_rfl

section
variable {ops : Array Oper} {rest : List Oper} {o : Oper} {a : Act} {Q : Exit → Act → World → Prop} {w W : World} {ex : Nat → Prop} {l : List Own}
/-- append(s, x...): x a block that is known whole, of bytes; s a row of bytes that is owned. -/
theorem append_bytes (h : Ms w ex l W) (i j : Nat) (hgd : o.guard = none) (s x : Operand) (ho : o.op = .call { callee := .builtin .append, args := #[s, x], argTypes := #[22, 22] })
    (v : Value) (bs ys : List UInt8) (g : Nat) (cs : Array Value) (hs : a.eval s = v) (hrow : l[i]? = some (.row 5 1 v bs.length (byt bs))) (hx : a.eval x = .slice (some ⟨g, 0, none⟩) ys.length ys.length)
    (hblk : l[j]? = some (.blk g 5 cs)) (hcs : cs.toList = byt ys) (hlen : bs.length + ys.length ≤ 140737488355328) (zs : List UInt8) (hz : bs ++ ys = zs)
    (hK : ∀ A' c' W', Ms w ex (l.set i (.row 5 1 (.slice A' zs.length c') zs.length (byt zs))) W' → wpList Try.prog ops Q rest (a.put o.dst (.slice A' zs.length c')) W') : wpList Try.prog ops Q (o :: rest) a W := by
  subst hz
  obtain ⟨i0, hi, hzz⟩ := Option.map_eq_some_iff.1 info_u8
  simp only [Prod.mk.injEq] at hzz
  obtain ⟨hz0, hz1, hz2⟩ := hzz
  have hown := h.own i hrow
  have hB := h.at_ j hblk
  refine wpList_plain hgd fun K hK' => ?_
  obtain ⟨v', w', hr, h2, h3, _, h5⟩ := run_append_own_at (P := Try.prog) W 0 22 o.type 5 i0 (.int .u8 0) 1 1 Try.underlying22 hi hz0 hz1 hz2 rfl (by omega) v bs.length (byt bs) hown ⟨g, 0, none⟩ ys.length ys.length (byt ys)
    (by rw [byt_length, Nat.mul_one]) (fun k u hu => by rw [add_plain, hB.cell, ← hu, ← hcs]; simp) (fun u hu => by simp only [byt, List.mem_map] at hu; obtain ⟨b, _, rfl⟩ := hu; rfl) (by simp only [maxLen]; omega) (by omega) (Nat.zero_le _)
  unfold Oper.wp execOp
  simp only [ho, resolve, invoke, builtin, Sem.run_bind, Sem.run_pure, Result.andThen_ok, List.map_toArray, List.map_cons, List.map_nil, hs, hx, hr]
  have h2' : w'.ownsRow 0 5 1 v' (bs ++ ys).length (byt (bs ++ ys)) := by rw [byt_append, List.length_append]; exact h2
  obtain ⟨A', c', rfl⟩ := row_form h2'
  refine hK' _ _ (hK A' c' w' (h.grown i hrow h2' h3 ?_))
  rcases h5 with h5 | h5
  · exact .inl h5
  · exact .inr (.inl h5)
theorem run_append_str_at (w : World) (ty : TypeId) (v : Value) (n : Nat) (xs : List Value) (hown : w.ownsRow 0 5 1 v n xs) (s : ByteArray) (hlen : n + s.size ≤ 140737488355328) :
    ∃ v' w', (Builtin.append_ #[22, 9] ty #[v, .string s]).run Try.prog w = .ok v' w' ∧ w'.ownsRow 0 5 1 v' (n + s.size) (xs ++ Lib.strCells s) ∧ w.grownBy w' v.ownBlock ∧ (v'.ownBlock = v.ownBlock ∨ v'.ownBlock = some w.heap.size ∨ v'.ownBlock = none) := by
  obtain ⟨i0, hi, hzz⟩ := Option.map_eq_some_iff.1 info_u8
  simp only [Prod.mk.injEq] at hzz
  obtain ⟨hz0, hz1, hz2⟩ := hzz
  obtain ⟨v', w', hr, h2, h3, h4⟩ := Lib.run_append_own_string (P := Try.prog) w 0 22 9 ty 5 i0 Try.underlying22 Try.underlying9 hi hz0 hz1 hz2 v n xs hown s (by simp only [maxLen]; omega) hlen (Nat.zero_le _)
  refine ⟨v', w', hr, h2, h3, ?_⟩
  rcases hown.2 with ⟨rfl, rfl⟩ | ⟨g, cap, cur, rfl, hbg, hg, hnc, hcm, hcs, htake⟩
  · by_cases hm : s.size = 0
    · have := h4.2 ⟨rfl, hm⟩
      subst this
      exact .inl rfl
    · have hr2 := run_append_nil_string (P := Try.prog) w 22 9 ty 5 i0 (.int .u8 0) Try.underlying22 Try.underlying9 hi hz0 s (by omega) (by omega) (by rw [hz2]; omega)
      rw [hr] at hr2
      injection hr2 with e1 _
      subst e1
      exact .inr (.inl rfl)
  · by_cases hroom : n + s.size ≤ cap
    · have hr2 := Lib.run_append_room_string (P := Try.prog) w 22 9 ty 5 i0 Try.underlying22 Try.underlying9 hi hz1 g n cap cur hg s hroom (by omega)
      rw [hr] at hr2
      injection hr2 with e1 _
      subst e1
      exact .inl rfl
    · have hr2 := Lib.run_append_grow_string (P := Try.prog) w 22 9 ty 5 i0 (.int .u8 0) Try.underlying22 Try.underlying9 hi hz0 ⟨g, 0, none⟩ n cap xs (by rw [hz1]; exact hown.1) (hown.cells (g := g) rfl) s (by omega) (by omega) (by rw [hz2]; exact growslice_fits (by omega) (by omega))
      rw [hr] at hr2
      injection hr2 with e1 _
      subst e1
      exact .inr (.inl rfl)
theorem append_text (h : Ms w ex l W) (i : Nat) (hgd : o.guard = none) (s x : Operand) (ho : o.op = .call { callee := .builtin .append, args := #[s, x], argTypes := #[22, 9] })
    (v : Value) (bs : List UInt8) (y : ByteArray) (hs : a.eval s = v) (hrow : l[i]? = some (.row 5 1 v bs.length (byt bs))) (hx : a.eval x = .string y) (hlen : bs.length + y.size ≤ 140737488355328) (zs : List UInt8) (hz : bs ++ y.data.toList = zs)
    (hK : ∀ A' c' W', Ms w ex (l.set i (.row 5 1 (.slice A' zs.length c') zs.length (byt zs))) W' → wpList Try.prog ops Q rest (a.put o.dst (.slice A' zs.length c')) W') : wpList Try.prog ops Q (o :: rest) a W := by
  subst hz
  have hown := h.own i hrow
  refine wpList_plain hgd fun K hK' => ?_
  obtain ⟨v', w', hr, h2, h3, h5⟩ := run_append_str_at W o.type v bs.length (byt bs) hown y hlen
  unfold Oper.wp execOp
  simp only [ho, resolve, invoke, builtin, Sem.run_bind, Sem.run_pure, Result.andThen_ok, List.map_toArray, List.map_cons, List.map_nil, hs, hx, hr]
  have h2' : w'.ownsRow 0 5 1 v' (bs ++ y.data.toList).length (byt (bs ++ y.data.toList)) := by rw [byt_append, List.length_append, ← byt_str]; exact h2
  obtain ⟨A', c', rfl⟩ := row_form h2'
  exact hK' _ _ (hK A' c' w' (h.grown i hrow h2' h3 h5))
end

/-! ### bytes as a text -/
def strOf (bs : List UInt8) : ByteArray := ⟨bs.toArray⟩
theorem strOf_size (bs : List UInt8) : (strOf bs).size = bs.length := by show bs.toArray.size = _; simp
theorem strOf_toList (bs : List UInt8) : (strOf bs).toList = bs := by rw [ByteArray.toList_eq]; simp [strOf]
theorem strOf_data (s : ByteArray) : strOf s.data.toList = s := by simp [strOf]
theorem push_fold : ∀ (bs : List UInt8) (s : ByteArray), (bs.map fun b => (b.toNat : Int)).foldl (fun r n => r.push (UInt8.ofNat n.toNat)) s = ⟨s.data ++ bs.toArray⟩
  | [], s => by simp
  | b :: bs, s => by
    simp only [List.map_cons, List.foldl_cons]
    rw [push_fold bs]
    simp [ByteArray.push]
theorem run_bytes_text {w : World} {A : Option Addr} {n c : Nat} {bs : List UInt8} (h : ReadsB w A n bs) (src dst e : TypeId) (hs : Try.prog.underlying src = some (.slice e)) (he : Try.prog.underlying e = some (.int .u8)) (hd : Try.prog.underlying dst = some .string) :
    (convert src dst (.slice A n c)).run Try.prog w = .ok (.string (strOf bs)) w := by
  rw [run_convert_bytes_string w src dst e A n c hs he hd]
  rcases Nat.eq_zero_or_pos n with h0 | h0
  · have hb : bs = [] := List.eq_nil_of_length_eq_zero (by rw [h.1]; exact h0)
    subst hb; subst h0
    cases A with
    | none => rfl
    | some ad =>
      exact run_bytesToString (P := Try.prog) w ad 0 c [] rfl
  · obtain ⟨ad, rfl, hc⟩ := h.2.2 h0
    have hl : (loadCells ad n).run Try.prog w = .ok ((bs.map fun b => (b.toNat : Int)).map (Value.int .u8)).toArray w := by
      have := run_loadCells_list (P := Try.prog) w ad (byt bs) (fun j v hv => by
        have hj : j < bs.length := by
          rcases Nat.lt_or_ge j bs.length with h1 | h1
          · exact h1
          · rw [List.getElem?_eq_none (by simpa [byt] using h1)] at hv; cases hv
        rw [hc j (by rw [← h.1]; exact hj), ← hv]
        simp [byt, List.getElem?_eq_getElem hj, List.getD_eq_getElem?_getD])
      rw [byt_length, h.1] at this
      rw [this]
      simp [byt]
    rw [run_bytesToString (P := Try.prog) w ad n c _ hl, push_fold]
    simp [strOf]
end Go.Proofs.Ytphmaimgpolaoaa
