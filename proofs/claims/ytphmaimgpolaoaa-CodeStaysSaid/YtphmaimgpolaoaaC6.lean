/- Code: slices.Clone, the writer's Bytes, New, Same. -/
import Derived.Test.YtphmaimgpolaoaaC5
set_option linter.unusedVariables false
namespace Go.Proofs.Ytphmaimgpolaoaa
open Go.RowKit Go.Sort

@[go_sem] theorem eql_slice_none (l c : Nat) (w : World) : (binOp .eql 22 (.slice none l c) (.slice none 0 0)).run Try.prog w = .ok (.bool true) w := by kernel_rfl
@[go_sem] theorem eql_slice_some (a : Addr) (l c : Nat) (w : World) : (binOp .eql 22 (.slice (some a) l c) (.slice none 0 0)).run Try.prog w = .ok (.bool false) w := by kernel_rfl
theorem run_append_read {w : World} (ty : TypeId) (v : Value) (bs ys : List UInt8) (A : Option Addr) (m c : Nat) (hown : w.ownsRow 0 5 1 v bs.length (byt bs)) (hR : ReadsB w A m ys) (hc : A = none → c = 0) (hlen : bs.length + m ≤ 140737488355328) :
    ∃ A' c' w', (Builtin.append_ #[22, 22] ty #[v, .slice A m c]).run Try.prog w = .ok (.slice A' (bs ++ ys).length c') w' ∧ w'.ownsRow 0 5 1 (.slice A' (bs ++ ys).length c') (bs ++ ys).length (byt (bs ++ ys)) ∧ w.grownBy w' v.ownBlock ∧
      ((Value.slice A' (bs ++ ys).length c').ownBlock = v.ownBlock ∨ (Value.slice A' (bs ++ ys).length c').ownBlock = some w.heap.size) := by
  obtain ⟨i0, hi, hzz⟩ := Option.map_eq_some_iff.1 info_u8
  simp only [Prod.mk.injEq] at hzz
  obtain ⟨hz0, hz1, hz2⟩ := hzz
  cases A with
  | none =>
    have hm : m = 0 := by
      rcases Nat.eq_zero_or_pos m with h | h
      · exact h
      · obtain ⟨ad, h1, _⟩ := hR.2.2 h; cases h1
    have hc0 := hc rfl
    subst hm; subst hc0
    have hy : ys = [] := List.eq_nil_of_length_eq_zero hR.1
    subst hy
    have hr := run_append_owned_none (P := Try.prog) w 0 22 ty 5 i0 1 Try.underlying22 hi v bs.length (byt bs) hown
    obtain ⟨A', c', rfl⟩ := row_form hown
    exact ⟨A', c', w, by simpa using hr, by simpa using hown, ⟨rfl, rfl, rfl, Nat.le_refl _, fun _ _ _ => rfl⟩, .inl (by simp [Value.ownBlock])⟩
  | some ad =>
    have hl := hR.1
    obtain ⟨v', w', hr, h2, h3, _, h5⟩ := run_append_own_at (P := Try.prog) w 0 22 ty 5 i0 (.int .u8 0) 1 1 Try.underlying22 hi hz0 hz1 hz2 rfl (by omega) v bs.length (byt bs) hown ad m c (byt ys)
      (by rw [byt_length, Nat.mul_one, hl]) (fun k u hu => by
        have hk : k < ys.length := by
          rcases Nat.lt_or_ge k ys.length with h1 | h1
          · exact h1
          · rw [List.getElem?_eq_none (by simpa [byt] using h1)] at hu; cases hu
        obtain ⟨ad', e, hcell⟩ := hR.2.2 (by omega)
        cases e
        rw [hcell k (by omega), ← hu]
        simp [byt, List.getElem?_eq_getElem hk, List.getD_eq_getElem?_getD]) (fun u hu => by simp only [byt, List.mem_map] at hu; obtain ⟨b, _, rfl⟩ := hu; rfl) (by simp only [maxLen]; omega) (by omega) (Nat.zero_le _)
    have h2' : w'.ownsRow 0 5 1 v' (bs ++ ys).length (byt (bs ++ ys)) := by rw [byt_append, List.length_append, hl]; exact h2
    obtain ⟨A', c', rfl⟩ := row_form h2'
    exact ⟨A', c', w', hr, h2', h3, h5⟩
section
variable {ops : Array Oper} {rest : List Oper} {o : Oper} {a : Act} {Q : Exit → Act → World → Prop} {w W : World} {ex : Nat → Prop} {l : List Own}
/-- append(s, x...): x a slice that is read. -/
theorem append_read (h : Ms w ex l W) (i : Nat) (hgd : o.guard = none) (s x : Operand) (ho : o.op = .call { callee := .builtin .append, args := #[s, x], argTypes := #[22, 22] })
    (v : Value) (bs ys : List UInt8) (A : Option Addr) (m c : Nat) (hs : a.eval s = v) (hrow : l[i]? = some (.row 5 1 v bs.length (byt bs))) (hx : a.eval x = .slice A m c)
    (hR : ReadsB W A m ys) (hc : A = none → c = 0) (hlen : bs.length + m ≤ 140737488355328) (zs : List UInt8) (hz : bs ++ ys = zs)
    (hK : ∀ A' c' W', Ms w ex (l.set i (rowB A' c' zs)) W' → wpList Try.prog ops Q rest (a.put o.dst (slB A' c' zs)) W') : wpList Try.prog ops Q (o :: rest) a W := by
  subst hz
  have hown := h.own i hrow
  refine wpList_plain hgd fun K hK' => ?_
  obtain ⟨A', c', w', hr, h2, h3, h5⟩ := run_append_read o.type v bs ys A m c hown hR hc hlen
  unfold Oper.wp execOp
  simp only [ho, resolve, invoke, builtin, Sem.run_bind, Sem.run_pure, Result.andThen_ok, List.map_toArray, List.map_cons, List.map_nil, hs, hx, hr]
  refine hK' _ _ (hK A' c' w' (h.grown i hrow h2 h3 ?_))
  rcases h5 with h5 | h5
  · exact .inl h5
  · exact .inr (.inl h5)
/-- A slice literal as a row. -/
theorem Ms.newRow {W' : World} {g n size : Nat} {t : TypeId} {cs : Array Value} (h : Ms w ex l W) (hb : Below W.heap.size W W') (hB : Blk W' g t cs) (hg : W.heap.size ≤ g) (hs : cs.size = n * size) (hn : n ≤ maxLen) : Ms w ex (l ++ [.row t size (.slice (some ⟨g, 0, none⟩) n n) n cs.toList]) W' :=
  h.add hb (o := .row t size (.slice (some ⟨g, 0, none⟩) n n) n cs.toList) ⟨by simpa using hs, .inr ⟨g, n, cs, rfl, Nat.zero_le _, hB, Nat.le_refl _, hn, hs, List.take_of_length_le (by rw [Array.length_toList, hs]; exact Nat.le_refl _)⟩⟩
    (fun k hk => by have h1 : some g = some k := hk; cases h1; exact hg)
/-- A row of nothing. -/
theorem Ms.nilRow (h : Ms w ex l W) : Ms w ex (l ++ [rowB none 0 []]) W :=
  h.more (o := rowB none 0 []) ⟨rfl, .inl ⟨rfl, rfl⟩⟩ (fun k hk => by have h1 : (slB none 0 []).ownBlock = some k := hk; cases h1) (fun i b hi k hk hk' => by have h1 : (slB none 0 []).ownBlock = some k := hk'; cases h1)
end
/-- A slice of bytes that a callee made. -/
def NewB (w : World) (bs : List UInt8) (e : Ending) (W : World) : Prop := ∃ A c, e = .returned (slB A c bs) ∧ Ms w noB [rowB A c bs] W
set_option maxRecDepth 100000 in
set_option maxHeartbeats 4000000 in
theorem clone_c (A : Option Addr) (n c : Nat) (bs : List UInt8) (w : World) (hR : ReadsB w A n bs) (hc : A = none → c = 0) (hlen : n ≤ 140737488355328) :
    Calls Try.prog 27 #[.slice A n c] w (NewB w bs) := by
  cases A with
  | none =>
    have hm : n = 0 := by
      rcases Nat.eq_zero_or_pos n with h | h
      · exact h
      · obtain ⟨ad, h1, _⟩ := hR.2.2 h; cases h1
    have hc0 := hc rfl
    subst hm; subst hc0
    have hb : bs = [] := List.eq_nil_of_length_eq_zero hR.1
    subst hb
    clear hR hc hlen
    go_enter Try.func27, Try.ntmps27
    go_wp2
    go_ret
    exact ⟨none, 0, rfl, (Ms.nil w noB).nilRow⟩
  | some ad =>
    have HR := Lib.hid hR
    have HN := Lib.hid (show ([] : List UInt8).length + n ≤ 140737488355328 by simpa using hlen)
    clear hR hc hlen
    go_enter Try.func27, Try.ntmps27
    have HS0 := Lib.hid (Ms.nil w noB)
    go_wp2_with (first
      | (refine wpList_build_b rfl (some 5) rfl 5 0 #[] (by kernel_rfl) ?_; intro g1 W1 hb hB hg; have HR1 := Lib.hid (HR.out.below hb); have HS1 := Lib.hid (HS0.out.newRow (n := 0) (size := 1) hb hB hg rfl (Nat.zero_le _)); clear hb hB hg HS0)
      | (refine append_read HS1.out 0 rfl (.tmp 5) (.tmp 6) rfl _ [] bs (some ad) n c rfl rfl rfl HR1.out (fun h => by cases h) HN.out bs rfl ?_; intro A2 c2 W2 hM; have HS2 := Lib.hid hM; clear hM HS1))
    go_ret
    exact ⟨A2, c2, rfl, HS2.out⟩
/-- What a writer's row reads as. -/
theorem rowB_read {w : World} {A : Option Addr} {c : Nat} {bs : List UInt8} (h : (rowB A c bs).ok w) : ReadsB w A bs.length bs ∧ (A = none → c = 0) := by
  have h' : w.ownsRow 0 5 1 (slB A c bs) bs.length (byt bs) := h
  obtain ⟨A', c', e, hR, _, _⟩ := rowB_reads h'
  injection e with e1 _ e3
  subst e1; subst e3
  refine ⟨hR, fun hn => ?_⟩
  rcases h'.2 with ⟨e, _⟩ | ⟨g, cap, cur, e, _⟩
  · injection e
  · injection e with e1 _ _
    rw [hn] at e1; cases e1
set_option maxRecDepth 100000 in
set_option maxHeartbeats 4000000 in
theorem wBytes_c (g : Nat) (B : Option Addr) (d : Nat) (bs : List UInt8) (w : World) (hO : (Own.wr g B d bs).ok w) (hlen : bs.length ≤ 140737488355328) :
    Calls Try.prog 15 #[.pointer (some ⟨g, 0, none⟩)] w (NewB w bs) := by
  have HB := Lib.hid hO.1
  have hr := rowB_read hO.2.1
  have HC := Lib.hid (fun w' hb => clone_c B bs.length d bs w' (ReadsB.below hr.1 hb) hr.2 hlen)
  clear hr hO hlen
  go_enter Try.func15, Try.ntmps15
  obtain ⟨r1, r2, r3⟩ := (show Blk w g _ _ from HB.out).rules
  go_wp2_with fail
  refine (HC.out w (Below.refl _ _)).mono ?_
  rintro e W1 ⟨A1, c1, rfl, hM⟩
  have HM := Lib.hid hM
  clear hM
  go_wp2
  go_ret
  exact ⟨A1, c1, rfl, HM.out⟩
theorem same_eq (a b : List UInt8) : ((strOf a).toList == (strOf b).toList) = decide (a = b) := by
  rw [strOf_toList, strOf_toList]
  by_cases h : a = b
  · simp [h]
  · simp [h]
set_option maxRecDepth 100000 in
set_option maxHeartbeats 4000000 in
theorem same_c (A : Option Addr) (n c : Nat) (xs : List UInt8) (B : Option Addr) (m d : Nat) (bs : List UInt8) (w : World) (hA : ReadsB w A n xs) (hB : ReadsB w B m bs) :
    Calls Try.prog 14 #[.slice A n c, .slice B m d] w fun e w' => e = .returned (.bool (decide (xs = bs))) ∧ w = w' := by
  have h1 := run_bytes_text (c := c) hA 22 9 5 Try.underlying22 Try.underlying5 Try.underlying9
  have h2 := run_bytes_text (c := d) hB 22 9 5 Try.underlying22 Try.underlying5 Try.underlying9
  have HE := Lib.hid (same_eq xs bs)
  clear hA hB
  go_enter Try.func14, Try.ntmps14
  go_wp2
  go_ret
  exact ⟨by rw [← HE.out]; rfl, rfl⟩
end Go.Proofs.Ytphmaimgpolaoaa
