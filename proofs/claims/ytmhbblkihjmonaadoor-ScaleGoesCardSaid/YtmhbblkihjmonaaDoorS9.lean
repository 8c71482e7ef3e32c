/- Scale: the document's Decide. -/
import Derived.Test.YtmhbblkihjmonaaDoorS8
set_option linter.unusedVariables false
namespace Go.Proofs.YtmhbblkihjmonaaDoor
open Go.RowKit Go.Sort

/-- What stands in the frame's blocks. -/
abbrev rdS (w : World) (v : Vw) : World → Prop := fun W => Blk W w.heap.size 43 (viewA v) ∧ Blk W (w.heap.size + 1) 24 z4 ∧ Blk W (w.heap.size + 1 + 1) 24 z4 ∧ Below w.heap.size w W
theorem rdS_after {w W W' : World} {v : Vw} (h : rdS w v W) (hb : Below W.heap.size W W') : rdS w v W' := ⟨h.1.after hb, h.2.1.after hb, h.2.2.1.after hb, below_then h.2.2.2 h.2.2.2.size hb⟩
theorem rdS_new {w : World} (v : Vw) : rdS w v (((w.alloc (.cells (viewA v) 43)).alloc (.cells z4 24)).alloc (.cells z4 24)) :=
  ⟨((Blk.new w 43 (viewA v)).alloc _).alloc _, (Blk.new' (by simp)).alloc _, Blk.new' (by simp), (((Below.refl w.heap.size w).alloc (by simp) _).alloc (by simp) _).alloc (by simp; omega) _⟩
theorem rdS_own {w W W' : World} {v : Vw} {u : Value} (h : rdS w v W) (hg : W.grownBy W' u.ownBlock) (hb : ∀ k, u.ownBlock = some k → w.heap.size + 3 ≤ k) : rdS w v W' :=
  ⟨h.1.own hg (fun k hk => by have := hb k hk; omega), h.2.1.own hg (fun k hk => by have := hb k hk; omega), h.2.2.1.own hg (fun k hk => by have := hb k hk; omega), below_own h.2.2.2 hg h.2.2.2.size hb (by omega)⟩
theorem rdS_size {w W : World} {v : Vw} (h : rdS w v W) : w.heap.size + 3 ≤ W.heap.size := by have := h.2.2.1.lt; omega
/-- A row of the call's own, as a slice. -/
def OwnL (W : World) (b : Nat) (u : Value) (l : List Int) : Prop := W.ownsRow b 3 1 u l.length (nums l)
theorem OwnL.shape {W : World} {b : Nat} {u : Value} {l : List Int} (h : OwnL W b u l) : ∃ A c, u = .slice A l.length c := by
  obtain ⟨A, c, h1, _, _⟩ := own_reads h
  exact ⟨A, c, h1⟩
theorem OwnL.reads {W : World} {b n c : Nat} {A : Option Addr} {l : List Int} (h : OwnL W b (.slice A n c) l) : ReadsI W A l.length l := own_readsA h
theorem OwnL.after {W W' : World} {b : Nat} {u : Value} {l : List Int} (h : OwnL W b u l) (hb : Below W.heap.size W W') : OwnL W' b u l := own_after h hb
theorem OwnL.nil (W : World) (b : Nat) : OwnL W b (.slice none 0 0) [] := own_nil _ _ _ _
theorem bits_and (s t : NS) (k : Nat) : (s &&& t).getLsbD k = (s.getLsbD k && t.getLsbD k) := BitVec.getLsbD_and

theorem rdecide_no (v : Vw) (hr : rightB v = false) (w : World) : Calls Tryd.prog 42 #[viewV v] w fun e w' => e = .returned (.tuple #[nsV emptyS, nsV emptyS, .int .i64 1]) ∧ Below w.heap.size w w' := by
  have hv := rright_c v
  rw [hr] at hv
  have HV := Lib.hid hv
  have H0 := Lib.hid (rdS_new (w := w) v)
  clear hv
  go_enter Tryd.func42, Tryd.ntmps42
  go_wp2_with (refine wpList_load_at rfl 43 _ rfl H0.out.1 19 (viewV v) rfl _ Tryd.underlying43 rfl (by kernel_rfl) (Nat.le_of_ble_eq_true rfl) rfl ?_)
  refine (HV.out _).mono ?_
  rintro e w1 ⟨rfl, hb⟩
  have H1 := Lib.hid (rdS_after H0.out hb)
  clear hb H0
  go_wp2_with (first
    | (refine wpList_store_at rfl 24 _ _ rfl H1.out.2.1 (.agg z4) rfl rfl (by kernel_rfl) (Nat.le_of_ble_eq_true rfl) (by kernel_rfl) ?_; intro w3 hB3 hP3; have HN3 := Lib.hid (show Blk w3 _ 24 z4 from hB3); have HM3 := Lib.hid (H1.out.2.2.1.put hP3 (by omega)); have HL3 := Lib.hid (below_put H1.out.2.2.2 hP3 (by omega)); clear hB3 hP3 H1)
    | (refine wpList_store_at rfl 24 _ _ rfl HM3.out (.agg z4) rfl rfl (by kernel_rfl) (Nat.le_of_ble_eq_true rfl) (by kernel_rfl) ?_; intro w4 hB4 hP4; have HM4 := Lib.hid (show Blk w4 _ 24 z4 from hB4); have HN4 := Lib.hid (HN3.out.put hP4 (by omega)); have HL4 := Lib.hid (below_put HL3.out hP4 (by omega)); clear hB4 hP4 HN3 HM3 HL3))
  exact post_cells_tmp rfl rfl rfl rfl HN4.out HM4.out Tryd.underlying24 rfl (by kernel_rfl) (by kernel_rfl) rfl ⟨by rw [empty_val]; rfl, HL4.out⟩

/-- A list that is gathered number by number, while it is short enough. -/
structure Gath (s : NS) (rt m lim : Int) (G : Nat → List Int) : Prop where
  skip : ∀ k, s.getLsbD k = false → G (k + 1) = G k
  add : ∀ k, s.getLsbD k = true → ((G k).length : Int) < rt → m + (G k).length < lim → G (k + 1) = G k ++ [(k : Int)]
  full : ∀ k, ¬ (((G k).length : Int) < rt ∧ m + (G k).length < lim) → G (k + 1) = G k
  len : ∀ k, (G k).length ≤ 1000 + k
theorem gath_tk (s : NS) (rt m lim : Int) (l : List Int) (hl : l.length ≤ 1000) : Gath s rt m lim fun k => l ++ tk s (if lim - m - l.length < rt - l.length then lim - m - l.length else rt - l.length).toNat k := by
  obtain ⟨K, hK⟩ : ∃ K : Nat, K = (if lim - m - l.length < rt - l.length then lim - m - l.length else rt - l.length).toNat := ⟨_, rfl⟩
  rw [← hK]
  have key : ∀ L : Nat, L < K ↔ ((l.length + L : Nat) : Int) < rt ∧ m + ((l.length + L : Nat) : Int) < lim := fun L => by rw [hK]; split <;> omega
  refine ⟨fun k h => ?_, fun k h h1 h2 => ?_, fun k h => ?_, fun k => ?_⟩
  · show l ++ tk s K (k + 1) = _; rw [tk_skip s K k h]
  · show l ++ tk s K (k + 1) = _
    rw [List.length_append] at h1 h2
    rw [tk_add s K k h ((key _).2 ⟨h1, h2⟩), List.append_assoc]
  · show l ++ tk s K (k + 1) = _
    rw [List.length_append] at h
    rw [tk_full s K k (Nat.le_of_not_lt fun h3 => h ((key _).1 h3))]
  · have := tk_le' s K k
    rw [List.length_append]; omega
structure GathD (s : NS) (M mn : Int) (G : Nat → List Int) : Prop where
  skip : ∀ k, s.getLsbD (255 - k) = false → G (k + 1) = G k
  add : ∀ k, s.getLsbD (255 - k) = true → mn < M - (G k).length → G (k + 1) = G k ++ [((255 - k : Nat) : Int)]
  full : ∀ k, ¬ mn < M - (G k).length → G (k + 1) = G k
  len : ∀ k, (G k).length ≤ k
theorem gath_td (s : NS) (M mn : Int) : GathD s M mn fun k => td s (M - mn).toNat k :=
  ⟨fun k h => td_skip s _ k h, fun k h h1 => td_add s _ k h (by omega), fun k h => td_full s _ k (by omega), fun k => td_le' s _ k⟩
def gA (v : Vw) (k : Nat) : List Int := tk (v.off &&& v.wnt) (if v.cp - (cnt v.pow : Nat) < v.rt then v.cp - (cnt v.pow : Nat) else v.rt).toNat k
theorem gA_gath (v : Vw) : Gath (v.off &&& v.wnt) v.rt (cnt v.pow : Nat) v.cp (gA v) := by
  have := gath_tk (v.off &&& v.wnt) v.rt (cnt v.pow : Nat) v.cp [] (by simp)
  have e : gA v = fun k => [] ++ tk (v.off &&& v.wnt) (if v.cp - (cnt v.pow : Nat) - (([] : List Int).length : Nat) < v.rt - (([] : List Int).length : Nat) then v.cp - (cnt v.pow : Nat) - (([] : List Int).length : Nat) else v.rt - (([] : List Int).length : Nat)).toNat k := by
    funext k
    simp [gA]
  rw [e]
  exact this
theorem gA_zero (v : Vw) : gA v 0 = [] := tk_zero _ _
theorem gA_of (v : Vw) : ofL (gA v 256) = on1S v := low_of _ _
theorem gA_len (v : Vw) : (gA v 256).length = cnt (on1S v) := (low_len _ _).symm
def gB (v : Vw) (k : Nat) : List Int := gA v 256 ++ tk (notS v.off v.wnt) (if v.mn - (cnt v.pow : Nat) - (cnt (on1S v) : Nat) < v.rt - (cnt (on1S v) : Nat) then v.mn - (cnt v.pow : Nat) - (cnt (on1S v) : Nat) else v.rt - (cnt (on1S v) : Nat)).toNat k
theorem gB_gath (v : Vw) : Gath (notS v.off v.wnt) v.rt (cnt v.pow : Nat) v.mn (gB v) := by
  have := gath_tk (notS v.off v.wnt) v.rt (cnt v.pow : Nat) v.mn (gA v 256) (by rw [gA_len]; have := cnt_le (on1S v); omega)
  rw [gA_len] at this
  exact this
theorem gB_zero (v : Vw) : gB v 0 = gA v 256 := by unfold gB; rw [tk_zero, List.append_nil]
theorem gB_of (v : Vw) : ofL (gB v 256) = onS v := by unfold gB; rw [ofL_append, gA_of, low_of]; rfl
theorem gB_len (v : Vw) : (gB v 256).length = cnt (onS v) := by
  unfold gB
  rw [List.length_append, gA_len, cnt_on, ← low_len]; rfl
def gD (v : Vw) (k : Nat) : List Int := td (notS v.old v.wnt) ((cnt v.pow : Nat) + (cnt (onS v) : Nat) - v.mn).toNat k
theorem gD_gath (v : Vw) : GathD (notS v.old v.wnt) ((cnt v.pow : Nat) + (cnt (onS v) : Nat)) v.mn (gD v) := gath_td _ _ _
theorem gD_zero (v : Vw) : gD v 0 = [] := td_zero _ _
theorem gD_of (v : Vw) : ofL (gD v 256) = offS v := high_of _ _

set_option maxRecDepth 100000 in
set_option maxHeartbeats 16000000 in
theorem rdecide_yes (v : Vw) (hr : rightB v = true) (w : World) : Calls Tryd.prog 42 #[viewV v] w fun e w' => e = .returned (.tuple #[nsV (onS v), nsV (offS v), .int .i64 0]) ∧ Below w.heap.size w w' := by
  have hv := rright_c v
  rw [hr] at hv
  have HV := Lib.hid hv
  have H0 := Lib.hid (rdS_new (w := w) v)
  have hmany := cnt_le v.pow
  have hbnd := (right_facts hr).1
  clear hv hr
  go_enter Tryd.func42, Tryd.ntmps42
  go_wp2_with (refine wpList_load_at rfl 43 _ rfl H0.out.1 19 (viewV v) rfl _ Tryd.underlying43 rfl (by kernel_rfl) (Nat.le_of_ble_eq_true rfl) rfl ?_)
  refine (HV.out _).mono ?_
  rintro e w1 ⟨rfl, hb⟩
  have H1 := Lib.hid (rdS_after H0.out hb)
  obtain ⟨r1, r2, r3⟩ := H1.out.1.rules
  clear hb H0 HV
  go_wp2_with fail
  refine (rlist_c v.pow _).mono ?_
  rintro e w2 ⟨u, rfl, hown, hb⟩
  obtain ⟨A0, c0, rfl, _, _⟩ := own_reads hown
  have hlen := lst_length v.pow
  have H2 := Lib.hid (rdS_after H1.out hb)
  clear hb H1 hown r1 r2 r3
  have HG := Lib.hid (gA_gath v)
  have HG0 := Lib.hid (gA_zero v)
  go_wp2_with fail
  go_loopw [6, 8] (fun l i wr => ∃ (k : Nat) (A : Option Addr) (c : Nat), k ≤ 256 ∧ i = .int .i64 k ∧ l = .slice A (gA v k).length c ∧ OwnL wr (w.heap.size + 3) l (gA v k) ∧ rdS w v wr) (fun _ i _ => 256 - (intOf i).toNat)
  case atStart => exact ⟨0, none, 0, by omega, rfl, by rw [HG0.out]; rfl, by rw [HG0.out]; exact OwnL.nil _ _, H2.out⟩
  case round =>
    obtain ⟨k, A, c, hk, rfl, rfl, hown, hS⟩ := hrel
    clear H2
    have HS := Lib.hid hS
    have HO := Lib.hid hown
    obtain ⟨r1, r2, r3⟩ := hS.1.rules
    clear hS hown
    by_cases hlt : k < 256
    · skip
      have hbit := bits_and v.off v.wnt k
      have hh1 := hasS_nat v.off k
      have hh2 := hasS_nat v.wnt k
      have hLk := HG.out.len k
      have hsz := rdS_size HS.out
      cases a : v.off.getLsbD k
      · rw [a] at hh1
        rw [a, Bool.false_and] at hbit
        have HE := Lib.hid (HG.out.skip k hbit)
        clear hbit a hh2
        go_wp2_with fail
        refine (rhas_c v.off k _).mono ?_
        rintro e w3 ⟨rfl, hb⟩
        have HS1 := Lib.hid (rdS_after HS.out hb)
        have HO1 := Lib.hid (HO.out.after hb)
        clear hb r1 r2 r3
        go_wp2_with fail
        go_roundw
        case rel => exact ⟨k + 1, A, c, by omega, by go_num, by rw [HE.out], by rw [HE.out]; exact HO1.out, HS1.out⟩
        case measure => simp [intOf]; omega
      · rw [a] at hh1
        rw [a, Bool.true_and] at hbit
        clear a
        go_wp2_with fail
        refine (rhas_c v.off k _).mono ?_
        rintro e w3 ⟨rfl, hb⟩
        have HS1 := Lib.hid (rdS_after HS.out hb)
        have HO1 := Lib.hid (HO.out.after hb)
        clear hb r1 r2 r3 HS HO
        obtain ⟨r1, r2, r3⟩ := HS1.out.1.rules
        cases a : v.wnt.getLsbD k
        · rw [a] at hh2
          rw [a] at hbit
          have HE := Lib.hid (HG.out.skip k hbit)
          clear hbit a
          go_wp2_with fail
          refine (rhas_c v.wnt k _).mono ?_
          rintro e w4 ⟨rfl, hb⟩
          have HS2 := Lib.hid (rdS_after HS1.out hb)
          have HO2 := Lib.hid (HO1.out.after hb)
          clear hb r1 r2 r3
          go_wp2_with fail
          go_roundw
          case rel => exact ⟨k + 1, A, c, by omega, by go_num, by rw [HE.out], by rw [HE.out]; exact HO2.out, HS2.out⟩
          case measure => simp [intOf]; omega
        · rw [a] at hh2
          rw [a] at hbit
          clear a
          go_wp2_with fail
          refine (rhas_c v.wnt k _).mono ?_
          rintro e w4 ⟨rfl, hb⟩
          have HS2 := Lib.hid (rdS_after HS1.out hb)
          have HO2 := Lib.hid (HO1.out.after hb)
          clear hb r1 r2 r3 HS1 HO1
          obtain ⟨r1, r2, r3⟩ := HS2.out.1.rules
          have hsz2 := rdS_size HS2.out
          by_cases g1 : ((gA v k).length : Int) < v.rt
          · by_cases g2 : (cnt v.pow : Int) + (gA v k).length < v.cp
            · have HE := Lib.hid (HG.out.add k hbit g1 g2)
              clear hbit
              go_wp2_with (at_builtin; go_must (refine append_num (w.heap.size + 3) rfl (.tmp 50) (.tmp 52) rfl _ (gA v k) k rfl rfl HO2.out (by omega) (by omega) ?_; intro v1 w5 hown2 hg hbb; have HS5 := Lib.hid (rdS_own HS2.out hg hbb); have HO5 := Lib.hid (show OwnL w5 (w.heap.size + 3) v1 _ from hown2); clear hown2 hg hbb))
              obtain ⟨A2, c2, hv1⟩ := HO5.out.shape
              rw [← HE.out] at hv1
              go_roundw
              case rel => exact ⟨k + 1, A2, c2, by omega, by go_num, hv1, by rw [HE.out]; exact HO5.out, HS5.out⟩
              case measure => simp [intOf]; omega
            · have HE := Lib.hid (HG.out.full k (fun h => g2 h.2))
              clear hbit
              go_wp2_with fail
              go_roundw
              case rel => exact ⟨k + 1, A, c, by omega, by go_num, by rw [HE.out], by rw [HE.out]; exact HO2.out, HS2.out⟩
              case measure => simp [intOf]; omega
          · have HE := Lib.hid (HG.out.full k (fun h => g1 h.1))
            clear hbit
            go_wp2_with fail
            go_roundw
            case rel => exact ⟨k + 1, A, c, by omega, by go_num, by rw [HE.out], by rw [HE.out]; exact HO2.out, HS2.out⟩
            case measure => simp [intOf]; omega
    · obtain rfl : k = 256 := by omega
      have HGE := Lib.hid (gB_gath v)
      have HE0 := Lib.hid (gB_zero v)
      clear HG0 HG r1 r2 r3
      rw [← HE0.out] at HO
      rw [← HE0.out]
      rw [show ((256 : Nat) : Int) = 256 from rfl]
      go_wp2_with fail
      go_loopw [6, 9] (fun l i wr => ∃ (k : Nat) (A : Option Addr) (c : Nat), k ≤ 256 ∧ i = .int .i64 k ∧ l = .slice A (gB v k).length c ∧ OwnL wr (w.heap.size + 3) l (gB v k) ∧ rdS w v wr) (fun _ i _ => 256 - (intOf i).toNat)
      case atStart => exact ⟨0, A, c, by omega, rfl, rfl, HO.out, HS.out⟩
      case round =>
        obtain ⟨k, A, c, hk, rfl, rfl, hown, hS⟩ := hrel
        clear HO HS
        have HS := Lib.hid hS
        have HO := Lib.hid hown
        obtain ⟨r1, r2, r3⟩ := hS.1.rules
        clear hS hown
        by_cases hlt : k < 256
        · skip
          have hbit := notS_bit v.off v.wnt k hlt
          have hh1 := hasS_nat v.off k
          have hh2 := hasS_nat v.wnt k
          have hLk := HGE.out.len k
          have hsz := rdS_size HS.out
          cases a : v.off.getLsbD k
          · rw [a] at hh1
            rw [a, Bool.false_and] at hbit
            have HE := Lib.hid (HGE.out.skip k hbit)
            clear hbit a hh2
            go_wp2_with fail
            refine (rhas_c v.off k _).mono ?_
            rintro e w3 ⟨rfl, hb⟩
            have HS1 := Lib.hid (rdS_after HS.out hb)
            have HO1 := Lib.hid (HO.out.after hb)
            clear hb r1 r2 r3
            go_wp2_with fail
            go_roundw
            case rel => exact ⟨k + 1, A, c, by omega, by go_num, by rw [HE.out], by rw [HE.out]; exact HO1.out, HS1.out⟩
            case measure => simp [intOf]; omega
          · rw [a] at hh1
            rw [a, Bool.true_and] at hbit
            clear a
            go_wp2_with fail
            refine (rhas_c v.off k _).mono ?_
            rintro e w3 ⟨rfl, hb⟩
            have HS1 := Lib.hid (rdS_after HS.out hb)
            have HO1 := Lib.hid (HO.out.after hb)
            clear hb r1 r2 r3 HS HO
            obtain ⟨r1, r2, r3⟩ := HS1.out.1.rules
            cases a : v.wnt.getLsbD k
            · rw [a] at hh2
              rw [a] at hbit
              clear a
              go_wp2_with fail
              refine (rhas_c v.wnt k _).mono ?_
              rintro e w4 ⟨rfl, hb⟩
              have HS2 := Lib.hid (rdS_after HS1.out hb)
              have HO2 := Lib.hid (HO1.out.after hb)
              clear hb r1 r2 r3 HS1 HO1
              obtain ⟨r1, r2, r3⟩ := HS2.out.1.rules
              have hsz2 := rdS_size HS2.out
              by_cases g1 : ((gB v k).length : Int) < v.rt
              · by_cases g2 : (cnt v.pow : Int) + (gB v k).length < v.mn
                · have HE := Lib.hid (HGE.out.add k hbit g1 g2)
                  clear hbit
                  go_wp2_with (at_builtin; go_must (refine append_num (w.heap.size + 3) rfl (.tmp 85) (.tmp 87) rfl _ (gB v k) k rfl rfl HO2.out (by omega) (by omega) ?_; intro v1 w5 hown2 hg hbb; have HS5 := Lib.hid (rdS_own HS2.out hg hbb); have HO5 := Lib.hid (show OwnL w5 (w.heap.size + 3) v1 _ from hown2); clear hown2 hg hbb))
                  obtain ⟨A2, c2, hv1⟩ := HO5.out.shape
                  rw [← HE.out] at hv1
                  go_roundw
                  case rel => exact ⟨k + 1, A2, c2, by omega, by go_num, hv1, by rw [HE.out]; exact HO5.out, HS5.out⟩
                  case measure => simp [intOf]; omega
                · have HE := Lib.hid (HGE.out.full k (fun h => g2 h.2))
                  clear hbit
                  go_wp2_with fail
                  go_roundw
                  case rel => exact ⟨k + 1, A, c, by omega, by go_num, by rw [HE.out], by rw [HE.out]; exact HO2.out, HS2.out⟩
                  case measure => simp [intOf]; omega
              · have HE := Lib.hid (HGE.out.full k (fun h => g1 h.1))
                clear hbit
                go_wp2_with fail
                go_roundw
                case rel => exact ⟨k + 1, A, c, by omega, by go_num, by rw [HE.out], by rw [HE.out]; exact HO2.out, HS2.out⟩
                case measure => simp [intOf]; omega
            · rw [a] at hh2
              rw [a] at hbit
              have HE := Lib.hid (HGE.out.skip k hbit)
              clear hbit a
              go_wp2_with fail
              refine (rhas_c v.wnt k _).mono ?_
              rintro e w4 ⟨rfl, hb⟩
              have HS2 := Lib.hid (rdS_after HS1.out hb)
              have HO2 := Lib.hid (HO1.out.after hb)
              clear hb r1 r2 r3
              go_wp2_with fail
              go_roundw
              case rel => exact ⟨k + 1, A, c, by omega, by go_num, by rw [HE.out], by rw [HE.out]; exact HO2.out, HS2.out⟩
              case measure => simp [intOf]; omega
        · obtain rfl : k = 256 := by omega
          have hcl := cnt_le (onS v)
          have he8 := gB_len v
          have HGF := Lib.hid (gD_gath v)
          have HF0 := Lib.hid (gD_zero v)
          rw [he8]
          rw [show ((256 : Nat) : Int) = 256 from rfl]
          clear he8 r1 r2 r3 hlt HGE HE0
          obtain ⟨W0, rfl⟩ : ∃ W0 : World, W0 = wr := ⟨_, rfl⟩
          have hsz0 := rdS_size HS.out
          have hR1 := HO.out.reads
          rw [gB_len] at hR1
          have HR1 := Lib.hid hR1
          clear hR1
          go_wp2_with fail
          go_loopw [5, 7, 10] (fun mm l i wr => ∃ (k : Nat) (B : Option Addr) (d : Nat), k ≤ 256 ∧ i = .int .i64 (255 - (k : Int)) ∧ mm = .int .i64 ((cnt v.pow : Int) + (cnt (onS v) : Nat) - (gD v k).length) ∧ l = .slice B (gD v k).length d ∧ OwnL wr W0.heap.size l (gD v k) ∧ Below W0.heap.size W0 wr ∧ rdS w v wr) (fun _ _ i _ => (intOf i + 1).toNat)
          case atStart => exact ⟨0, none, 0, by omega, by simp, by rw [HF0.out]; simp, by rw [HF0.out]; rfl, by rw [HF0.out]; exact OwnL.nil _ _, Below.refl _ _, HS.out⟩
          case round =>
            obtain ⟨k, B, d, hk, rfl, rfl, rfl, hown, hon, hS⟩ := hrel
            clear HO HS
            have HS := Lib.hid hS
            have HO := Lib.hid hown
            have HN := Lib.hid hon
            obtain ⟨r1, r2, r3⟩ := hS.1.rules
            clear hS hown hon
            by_cases hlt : k < 256
            · obtain ⟨j, hj⟩ : ∃ j : Nat, j + k = 255 := ⟨255 - k, by omega⟩
              have hj' : 255 - (k : Int) = (j : Int) := by omega
              have hj2 : 255 - k = j := by omega
              have hstep : ∀ x : Int, x = (j : Int) - 1 → x = 255 - ((k + 1 : Nat) : Int) := fun x hx => by omega
              rw [hj']
              have hbit := notS_bit v.old v.wnt j (by omega)
              have hh1 := hasS_nat v.old j
              have hh2 := hasS_nat v.wnt j
              have hLk := HGF.out.len k
              have hsk := HGF.out.skip k
              have had := HGF.out.add k
              rw [hj2] at hsk had
              have HSK := Lib.hid hsk
              have HAD := Lib.hid had
              have hj0 : 0 ≤ (j : Int) := by omega
              have hj1 : j ≤ 255 := by omega
              have hsz := HN.out.size
              have HST := Lib.hid hstep
              clear hsk had hj' hj2 hj hstep
              cases a : v.old.getLsbD j
              · rw [a] at hh1
                rw [a, Bool.false_and] at hbit
                have HE := Lib.hid (HSK.out hbit)
                clear hbit a hh2
                go_wp2_with fail
                refine (rhas_c v.old j _).mono ?_
                rintro e w3 ⟨rfl, hb⟩
                have HS1 := Lib.hid (rdS_after HS.out hb)
                have HO1 := Lib.hid (HO.out.after hb)
                have HN1 := Lib.hid (below_then HN.out HN.out.size hb)
                clear hb r1 r2 r3
                go_wp2_with fail
                go_roundw
                case rel => exact ⟨k + 1, B, d, by omega, congrArg (Value.int .i64) (HST.out _ rfl), by rw [HE.out], by rw [HE.out], by rw [HE.out]; exact HO1.out, HN1.out, HS1.out⟩
                case measure => simp [intOf]
              · rw [a] at hh1
                rw [a, Bool.true_and] at hbit
                clear a
                go_wp2_with fail
                refine (rhas_c v.old j _).mono ?_
                rintro e w3 ⟨rfl, hb⟩
                have HS1 := Lib.hid (rdS_after HS.out hb)
                have HO1 := Lib.hid (HO.out.after hb)
                have HN1 := Lib.hid (below_then HN.out HN.out.size hb)
                clear hb r1 r2 r3 HS HO HN
                obtain ⟨r1, r2, r3⟩ := HS1.out.1.rules
                cases a : v.wnt.getLsbD j
                · rw [a] at hh2
                  rw [a] at hbit
                  clear a
                  go_wp2_with fail
                  refine (rhas_c v.wnt j _).mono ?_
                  rintro e w4 ⟨rfl, hb⟩
                  have HS2 := Lib.hid (rdS_after HS1.out hb)
                  have HO2 := Lib.hid (HO1.out.after hb)
                  have HN2 := Lib.hid (below_then HN1.out HN1.out.size hb)
                  clear hb r1 r2 r3 HS1 HO1 HN1
                  obtain ⟨r1, r2, r3⟩ := HS2.out.1.rules
                  have hsz2 := HN2.out.size
                  by_cases g1 : v.mn < (cnt v.pow : Int) + (cnt (onS v) : Nat) - (gD v k).length
                  · have HE := Lib.hid (HAD.out hbit g1)
                    clear hbit
                    go_wp2_with (at_builtin; go_must (refine append_num W0.heap.size rfl (.tmp 114) (.tmp 116) rfl _ (gD v k) j rfl rfl HO2.out (by omega) (by omega) ?_; intro v1 w5 hown2 hg hbb; have HS5 := Lib.hid (rdS_own HS2.out hg (fun k hk => Nat.le_trans hsz0 (hbb k hk))); have HO5 := Lib.hid (show OwnL w5 W0.heap.size v1 _ from hown2); have HN5 := Lib.hid (below_own HN2.out hg HN2.out.size hbb (Nat.le_refl _)); clear hown2 hg hbb))
                    obtain ⟨A2, c2, hv1⟩ := HO5.out.shape
                    rw [← HE.out] at hv1
                    go_roundw
                    case rel => exact ⟨k + 1, A2, c2, by omega, congrArg (Value.int .i64) (HST.out _ rfl), by rw [HE.out, List.length_append]; congr 1; simp; omega, hv1, by rw [HE.out]; exact HO5.out, HN5.out, HS5.out⟩
                    case measure => simp [intOf]
                  · have HE := Lib.hid (HGF.out.full k g1)
                    clear hbit
                    go_wp2_with fail
                    go_roundw
                    case rel => exact ⟨k + 1, B, d, by omega, congrArg (Value.int .i64) (HST.out _ rfl), by rw [HE.out], by rw [HE.out], by rw [HE.out]; exact HO2.out, HN2.out, HS2.out⟩
                    case measure => simp [intOf]
                · rw [a] at hh2
                  rw [a] at hbit
                  have HE := Lib.hid (HSK.out hbit)
                  clear hbit a
                  go_wp2_with fail
                  refine (rhas_c v.wnt j _).mono ?_
                  rintro e w4 ⟨rfl, hb⟩
                  have HS2 := Lib.hid (rdS_after HS1.out hb)
                  have HO2 := Lib.hid (HO1.out.after hb)
                  have HN2 := Lib.hid (below_then HN1.out HN1.out.size hb)
                  clear hb r1 r2 r3
                  go_wp2_with fail
                  go_roundw
                  case rel => exact ⟨k + 1, B, d, by omega, congrArg (Value.int .i64) (HST.out _ rfl), by rw [HE.out], by rw [HE.out], by rw [HE.out]; exact HO2.out, HN2.out, HS2.out⟩
                  case measure => simp [intOf]
            · obtain rfl : k = 256 := by omega
              rw [show (255 : Int) - ((256 : Nat) : Int) = -1 from rfl]
              have HR2 := Lib.hid (HR1.out.below HN.out)
              have hlm := HGF.out.len 256
              clear r1 r2 r3
              go_wp2_with fail
              refine (rof_c A _ c (gB v 256) _ HR2.out).mono ?_
              rintro e w3 ⟨rfl, hb⟩
              have HS1 := Lib.hid (rdS_after HS.out hb)
              have HO1 := Lib.hid (HO.out.after hb)
              have hon1 := gB_of v
              rw [hon1]
              clear hb HR1 HR2 HS HO HN hon1
              go_wp2_with fail
              refine (rof_c B _ d (gD v 256) _ HO1.out.reads).mono ?_
              rintro e w4 ⟨rfl, hb⟩
              have H1 := Lib.hid (rdS_after HS1.out hb)
              have hon1 := gD_of v
              rw [hon1]
              clear hb HS1 HO1 hon1
              go_wp2_with (first
                | (refine wpList_store_at rfl 24 _ _ rfl H1.out.2.1 (nsV (onS v)) rfl rfl (by kernel_rfl) (Nat.le_of_ble_eq_true rfl) (by kernel_rfl) ?_; intro w5 hB3 hP3; have HN3 := Lib.hid (show Blk w5 _ 24 (nsA (onS v)) from hB3); have HM3 := Lib.hid (H1.out.2.2.1.put hP3 (by omega)); have HL3 := Lib.hid (below_put H1.out.2.2.2 hP3 (by omega)); clear hB3 hP3 H1)
                | (refine wpList_store_at rfl 24 _ _ rfl HM3.out (nsV (offS v)) rfl rfl (by kernel_rfl) (Nat.le_of_ble_eq_true rfl) (by kernel_rfl) ?_; intro w6 hB4 hP4; have HM4 := Lib.hid (show Blk w6 _ 24 (nsA (offS v)) from hB4); have HN4 := Lib.hid (HN3.out.put hP4 (by omega)); have HL4 := Lib.hid (below_put HL3.out hP4 (by omega)); clear hB4 hP4 HN3 HM3 HL3))
              exact post_cells_tmp rfl rfl rfl rfl HN4.out HM4.out Tryd.underlying24 rfl (by kernel_rfl) (by kernel_rfl) rfl ⟨rfl, HL4.out⟩
end Go.Proofs.YtmhbblkihjmonaaDoor
