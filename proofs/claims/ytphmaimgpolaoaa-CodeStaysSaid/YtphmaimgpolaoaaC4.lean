/- Code: the writer's Text, Nodes, Bytes. -/
import Derived.Test.YtphmaimgpolaoaaC3
set_option linter.unusedVariables false
namespace Go.Proofs.Ytphmaimgpolaoaa
open Go.RowKit Go.Sort

section
variable {w W : World} {ex : Nat → Prop} {l : List Own}
theorem cons_key {a c : Own} {i : Nat} (h : (a :: l)[i]? = some c) : (i = 0 ∧ c = a) ∨ (∃ j, i = j + 1 ∧ l[j]? = some c) := by
  cases i with
  | zero => simp at h; exact .inl ⟨rfl, h.symm⟩
  | succ i => simp at h; exact .inr ⟨i, rfl, h⟩
/-- The first is seen as two. -/
theorem Ms.split {a b o : Own} (h : Ms w ex (o :: l) W) (ha : a.ok W) (hb : b.ok W) (hbl : ∀ k, a.bl k ∨ b.bl k → o.bl k) (hab : ∀ k, a.bl k → ¬ b.bl k) : Ms w ex (a :: b :: l) W := by
  have key : ∀ (i : Nat) (c : Own), (a :: b :: l)[i]? = some c → (i = 0 ∧ c = a) ∨ (i = 1 ∧ c = b) ∨ (∃ j, i = j + 2 ∧ (o :: l)[j + 1]? = some c) := fun i c hi => by
    match i, hi with
    | 0, hi => simp at hi; exact .inl ⟨rfl, hi.symm⟩
    | 1, hi => simp at hi; exact .inr (.inl ⟨rfl, hi.symm⟩)
    | i + 2, hi => exact .inr (.inr ⟨i, rfl, by simpa using hi⟩)
  refine ⟨fun i c hi => ?_, fun i c hi k hk => ?_, fun i j c d hi hj hij k hk => ?_, h.turn⟩
  · rcases key i c hi with ⟨_, e⟩ | ⟨_, e⟩ | ⟨j, _, e⟩
    · rw [e]; exact ha
    · rw [e]; exact hb
    · exact h.ok _ c e
  · rcases key i c hi with ⟨_, e⟩ | ⟨_, e⟩ | ⟨j, _, e⟩
    · rw [e] at hk; exact h.lo 0 o rfl k (hbl k (.inl hk))
    · rw [e] at hk; exact h.lo 0 o rfl k (hbl k (.inr hk))
    · exact h.lo _ c e k hk
  · rcases key i c hi with ⟨f, e⟩ | ⟨f, e⟩ | ⟨i', f, e⟩ <;> rcases key j d hj with ⟨f2, e2⟩ | ⟨f2, e2⟩ | ⟨j', f2, e2⟩
    · omega
    · rw [e] at hk; rw [e2]; exact hab k hk
    · rw [e] at hk; exact h.apart 0 _ o d rfl e2 (by omega) k (hbl k (.inl hk))
    · rw [e] at hk; rw [e2]; exact fun h1 => hab k h1 hk
    · omega
    · rw [e] at hk; exact h.apart 0 _ o d rfl e2 (by omega) k (hbl k (.inr hk))
    · rw [e2]; exact fun h1 => h.apart 0 _ o c rfl e (by omega) k (hbl k (.inl h1)) hk
    · rw [e2]; exact fun h1 => h.apart 0 _ o c rfl e (by omega) k (hbl k (.inr h1)) hk
    · exact h.apart _ _ c d e e2 (by omega) k hk
/-- The first two are seen as one. -/
theorem Ms.joined {a b o : Own} (h : Ms w ex (a :: b :: l) W) (hok : o.ok W) (hbl : ∀ k, o.bl k → a.bl k ∨ b.bl k) : Ms w ex (o :: l) W := by
  have key : ∀ (i : Nat) (c : Own), (o :: l)[i]? = some c → (i = 0 ∧ c = o) ∨ (∃ j, i = j + 1 ∧ (a :: b :: l)[j + 2]? = some c) := fun i c hi => by
    match i, hi with
    | 0, hi => simp at hi; exact .inl ⟨rfl, hi.symm⟩
    | i + 1, hi => exact .inr ⟨i, rfl, by simpa using hi⟩
  refine ⟨fun i c hi => ?_, fun i c hi k hk => ?_, fun i j c d hi hj hij k hk => ?_, h.turn⟩
  · rcases key i c hi with ⟨_, e⟩ | ⟨j, _, e⟩
    · rw [e]; exact hok
    · exact h.ok _ c e
  · rcases key i c hi with ⟨_, e⟩ | ⟨j, _, e⟩
    · rw [e] at hk
      rcases hbl k hk with h1 | h1
      · exact h.lo 0 a rfl k h1
      · exact h.lo 1 b rfl k h1
    · exact h.lo _ c e k hk
  · rcases key i c hi with ⟨f, e⟩ | ⟨i', f, e⟩ <;> rcases key j d hj with ⟨f2, e2⟩ | ⟨j', f2, e2⟩
    · omega
    · rw [e] at hk
      rcases hbl k hk with h1 | h1
      · exact h.apart 0 _ a d rfl e2 (by omega) k h1
      · exact h.apart 1 _ b d rfl e2 (by omega) k h1
    · rw [e2]
      intro h1
      rcases hbl k h1 with h2 | h2
      · exact h.apart 0 _ a c rfl e (by omega) k h2 hk
      · exact h.apart 1 _ b c rfl e (by omega) k h2 hk
    · exact h.apart _ _ c d e e2 (by omega) k hk
theorem Ms.wrOpen {g : Nat} {A : Option Addr} {c : Nat} {bs : List UInt8} (h : Ms w ex (.wr g A c bs :: l) W) : Ms w ex (blkW g A c bs :: rowB A c bs :: l) W :=
  have ho := h.ok 0 _ rfl
  h.split ho.1 ho.2.1 (fun k hk => hk) (fun k hk hk' => ho.2.2 (by have e : k = g := hk; subst e; exact hk'))
theorem Ms.wrShut {g : Nat} {A : Option Addr} {c : Nat} {bs : List UInt8} (h : Ms w ex (blkW g A c bs :: rowB A c bs :: l) W) : Ms w ex (.wr g A c bs :: l) W :=
  h.joined ⟨h.ok 0 _ rfl, h.ok 1 _ rfl, fun e => h.apart 0 1 _ _ rfl rfl (by decide) g rfl e⟩ (fun k hk => hk)
end
/-- The slice value '.slice A n c' reads as these texts. -/
def ReadsS (w : World) (A : Option Addr) (n : Nat) (ts : List ByteArray) : Prop :=
  ts.length = n ∧ n ≤ 9223372036854775807 ∧ (0 < n → ∃ ad, A = some ad ∧ ∀ j, j < n → w.cell? (ad.add j) = some (.string (ts.getD j .empty)))
def encT (t : ByteArray) : List UInt8 := encI t.size ++ t.data.toList
def encTs (l : List ByteArray) : List UInt8 := l.flatMap encT
theorem encTs_append (a b : List ByteArray) : encTs (a ++ b) = encTs a ++ encTs b := by simp [encTs]
theorem encTs_one (t : ByteArray) : encTs [t] = encT t := by simp [encTs]
theorem takeS_snoc (xs : List ByteArray) (k : Nat) (h : k < xs.length) : xs.take (k + 1) = xs.take k ++ [xs.getD k .empty] := by
  rw [List.take_succ_eq_append_getElem h]
  simp [List.getD_eq_getElem?_getD, List.getElem?_eq_getElem h]
theorem encTs_le (ts : List ByteArray) (k : Nat) : (encTs (ts.take k)).length ≤ (encTs ts).length := by
  have h := congrArg List.length (encTs_append (ts.take k) (ts.drop k))
  rw [List.take_append_drop, List.length_append] at h
  omega
theorem lit_int (x : Int) {w : World} {g : Nat} (h : Blk w g 3 #[.int .i64 x]) : ReadsI w (some ⟨g, 0, none⟩) 1 [x] :=
  ⟨rfl, by omega, fun _ => ⟨_, rfl, fun j hj => by
    have e : j = 0 := by omega
    subst e
    rw [add_plain, h.cell]
    rfl⟩⟩
set_option maxRecDepth 100000 in
set_option maxHeartbeats 4000000 in
theorem wText_c (g : Nat) (B : Option Addr) (d : Nat) (bs : List UInt8) (A : Option Addr) (m c : Nat) (ts : List ByteArray) (w : World) (hO : (Own.wr g B d bs).ok w) (hR : ReadsS w A m ts) (hm : m ≤ 140737488355328)
    (hA : 0 < m → ∀ a, A = some a → ¬ (Own.wr g B d bs).bl a.block) (hlen : bs.length + (encTs ts).length ≤ 140737488355000) :
    Calls Try.prog 16 #[.pointer (some ⟨g, 0, none⟩), .slice A m c] w (WrPost w g B d bs (bs ++ encTs ts)) := by
  have HS0 := Lib.hid (Ms.start hO)
  have HR := Lib.hid hR
  have HA := Lib.hid hA
  have HN := Lib.hid hlen
  have HM := Lib.hid hR.1
  have HK := Lib.hid hm
  clear hO hR hA hlen hm
  go_enter Try.func16, Try.ntmps16
  go_wp2_with fail
  go_loopw [10] (fun i wr => ∃ (k : Nat) (A' : Option Addr) (c' : Nat), k ≤ m ∧ i = .int .i64 k ∧ Ms w (Own.wr g B d bs).bl [.wr g A' c' (bs ++ encTs (ts.take k))] wr) (fun i _ => m - (intOf i).toNat)
  case atStart => exact ⟨0, B, d, by omega, rfl, by simpa [encTs] using HS0.out⟩
  case round =>
    obtain ⟨k, A', c', hk, rfl, hS⟩ := hrel
    clear HS0
    have HS1 := Lib.hid hS
    clear hS
    have hkb : (k : Int) ≤ 140737488355328 := by have := HK.out; omega
    by_cases hlt : k < m
    · obtain ⟨ad, hAe, hcell⟩ := HR.out.2.2 (by omega)
      subst hAe
      have hc := (HS1.out.turn.block _ (block_lt_of_cell (hcell k hlt)) (by rw [add_block]; exact HA.out (by omega) ad rfl))
      have hcc := (World.cell?_of_block (a := ad.add k) hc).trans (hcell k hlt)
      clear hc hcell
      obtain ⟨x, hxe⟩ : ∃ x, x = ts.getD k .empty := ⟨_, rfl⟩
      rw [← hxe] at hcc
      have hT : encTs (ts.take (k + 1)) = encTs (ts.take k) ++ encT x := by rw [hxe, takeS_snoc ts k (by rw [HM.out]; exact hlt), encTs_append, encTs_one]
      have hl1 := encTs_le ts (k + 1)
      rw [hT, List.length_append] at hl1
      have hx1 : (encT x).length = (encI x.size).length + x.size := by unfold encT; rw [List.length_append]; rfl
      clear hxe
      obtain ⟨out, hout⟩ : ∃ out, out = bs ++ encTs (ts.take k) := ⟨_, rfl⟩
      have hol : out.length = bs.length + (encTs (ts.take k)).length := by rw [hout, List.length_append]
      have hxs : x.size ≤ 140737488355328 := by have := HN.out; omega
      have HL := Lib.hid (show out.length + 10 * 1 ≤ 140737488355328 by have := HN.out; omega)
      have HL2 := Lib.hid (show (out ++ encL [((x.size : Nat) : Int)]).length + x.size ≤ 140737488355328 by rw [encL_one, List.length_append]; have := HN.out; omega)
      have HX := Lib.hid (show ∀ y ∈ [((x.size : Nat) : Int)], -9223372036854775808 ≤ y ∧ y ≤ 9223372036854775807 from fun y hy => by simp at hy; omega)
      obtain ⟨nx, hnx⟩ : ∃ nx, nx = bs ++ encTs (ts.take (k + 1)) := ⟨_, rfl⟩
      have HF := Lib.hid (show (out ++ encL [((x.size : Nat) : Int)]) ++ x.data.toList = nx by rw [hnx, hT, encL_one, hout]; unfold encT; simp)
      rw [← hout] at HS1
      have HG := Lib.hid hnx
      clear hnx hout hl1 hx1 hol hT
      go_wp2_with (first
        | (refine wpList_build_b rfl (some 17) rfl 3 1 #[.int .i64 (x.size : Nat)] (by kernel_rfl) ?_; intro g3 W3 hb3 hB3 hg3; have HS3 := Lib.hid (HS1.out.new hb3 hB3 hg3); clear hb3 hB3 hg3 HS1 hcc))
      refine (wInt_c g A' c' out _ 1 1 [((x.size : Nat) : Int)] _ (HS3.out.ok 0 _ rfl) (lit_int _ (HS3.out.at_ 1 rfl)) HX.out (fun _ a ha => by cases ha; exact fun h1 => HS3.out.apart 0 1 _ _ rfl rfl (by decide) _ h1 rfl) HL.out).mono ?_
      rintro e W4 ⟨rfl, A4, c4, hM⟩
      have HS4 := Lib.hid (Ms.cut (l := [.wr g A4 c4 (out ++ encL [((x.size : Nat) : Int)])]) (k := [.blk g3 3 #[.int .i64 (x.size : Nat)]]) (HS3.out.call 0 rfl hM)).wrOpen
      clear hM HS3
      obtain ⟨mid, hmid⟩ : ∃ mid, mid = out ++ encL [((x.size : Nat) : Int)] := ⟨_, rfl⟩
      rw [← hmid] at HS4 HL2 HF
      clear hmid
      obtain ⟨r1, r2, r3⟩ := HS4.out.rules 0 rfl
      go_wp2_with (first
        | (refine append_text HS4.out 1 rfl (.tmp 23) (.tmp 24) rfl _ mid x rfl rfl rfl HL2.out nx HF.out ?_; intro A5 c5 W5 hM; have HS5 := Lib.hid hM; clear hM HS4 r1 r2 r3)
        | (refine wpList_store_at rfl 22 _ _ rfl (HS5.out.at_ 0 rfl) _ rfl rfl (by kernel_rfl) (Nat.le_of_ble_eq_true rfl) (by kernel_rfl) ?_; intro W6 hB hP; have HS6 := Lib.hid (HS5.out.put 0 rfl (new := #[slB A5 c5 nx]) hB hP); clear hB hP HS5))
      refine ⟨⟨k + 1, A5, c5, by omega, by go_num, ?_⟩, by simp [intOf]; omega⟩
      rw [← HG.out]
      exact Ms.wrShut HS6.out
    · have HE := Lib.hid (show bs ++ encTs (ts.take k) = bs ++ encTs ts by rw [List.take_of_length_le (by rw [HM.out]; omega)])
      go_wp2_with fail
      go_end0
      rw [HE.out] at HS1
      exact ⟨rfl, A', c', HS1.out⟩
end Go.Proofs.Ytphmaimgpolaoaa
