/- Share: m[k], x = a, y where k is new: the entry is made, then stored. -/
import Derived.Test.YtflgnlpippjhcaaUb
import Derived.MapFrom
set_option linter.unusedVariables false
set_option maxRecDepth 100000
namespace Go.Proofs.Ytflgnlpippjhcaa
open Go.RowKit Go.Sort Go.Maps Go.MapKept Go.ChangeMaps
open Go.WideElems (Fit rd rg pl rd_val elemAt)

theorem push_find {es : Array MapEntry} {clock : Nat} {k v : Value} (h : ∀ x ∈ es.toList, x.born < clock) : (es.push ⟨k, v, clock⟩).findIdx? (fun e => (e.born : Int) == (clock : Int)) = some es.size := by
  rw [Array.findIdx?_eq_some_iff_getElem]
  refine ⟨by simp, by simp, fun j hj => ?_⟩
  have h1 : j < es.size := by simpa using hj
  rw [Array.getElem_push_lt h1]
  have := h es[j] (by simp)
  simp
  omega
theorem push_modify {es : Array MapEntry} {k v x : Value} {clock : Nat} : (es.push ⟨k, v, clock⟩).modify es.size (fun e => { e with val := x }) = es.push ⟨k, x, clock⟩ := by
  apply Array.ext
  · simp
  · intro i h1 h2
    rw [Array.getElem_modify]
    by_cases h : es.size = i
    · subst h
      simp
    · rw [if_neg h]
      have : i < es.size := by simp at h1; omega
      rw [Array.getElem_push_lt this, Array.getElem_push_lt this]
theorem entry_new {W : World} {b : Nat} {L : Led} {n : Nm} {c : Ac} (hown : W.ownsMap Try.prog 9 accE b L.length (ledD L)) (hL : Ris L) (hlen : L.length < maxLen) (hn : n.length ≤ maxLen) (hnew : look L n = none) :
    ∃ (s : Int) (W1 W2 : World), (Instr.mapEntry 54 (.map (some b)) (str n)).run Try.prog W = .ok (.tuple #[acV ⟨0, 0⟩, .int .i64 s]) W1 ∧
      (Instr.entryStore 54 (.map (some b)) (.int .i64 s) (acV c)).run Try.prog W1 = .ok () W2 ∧
      W.grownBy W1 (some b) ∧ W.grownBy W2 (some b) ∧ W2.ownsMap Try.prog 9 accE b (put L n c).length (ledD (put L n c)) := by
  obtain ⟨w', hrun, ho, hg⟩ := hown.update str_law Try.underlying54 hlen (str_key hn) (accE_mk c)
  obtain ⟨v, ps, hlook, _⟩ := hown.look_ok str_law Try.underlying54 (ac_zero W) (accE_mk ⟨0, 0⟩) (str_key hn)
  rw [led_has, hnew] at hlook
  rw [led_put hL] at ho
  have ho := own_tight ho
  rw [led_size] at ho
  obtain ⟨es, clock, hb, F, hs, hD⟩ := hown
  have hk : IsKey .string (str n) := trivial
  have hd : Try.prog.underlying 9 = some .string := Try.underlying9
  have hm : Try.prog.underlying 54 = some (.map 9 66) := Try.underlying54
  have hks : ∀ x ∈ es.toList, IsKey .string x.key := fun x hx => by
    obtain ⟨y, hy⟩ := F.keys x hx
    obtain ⟨s, h1, _⟩ := Maps.keyOf_str Try.underlying9 hy
    rw [h1]
    trivial
  have hst := ((stamped_iff es clock).1 F.stamped).1
  rcases findNow_spec hk es.toList 0 hks with ⟨h1, _⟩ | ⟨j, e, h1, h2, h3⟩
  · simp [Instr.mapUpdate, run_underlying hm, MapKept.run_getObj_map hb, run_checkKey hd hk, run_findKey hd h1, MapKept.run_setObj_map _ hb, Result.andThen] at hrun
    refine ⟨(clock : Int), setBlock W b (.map (es.push ⟨str n, acV ⟨0, 0⟩, clock⟩) (clock + 1)), w', ?_, ?_, ⟨rfl, rfl, rfl, by simp [setBlock], fun i _ hi => heap_setBlock_other hb _ (fun e => hi (by rw [e]))⟩, hg, ho⟩
    · simp [Instr.mapEntry, run_underlying hm, MapKept.run_getObj_map hb, run_checkKey hd hk, run_findKey hd h1, MapKept.run_setObj_map _ hb, ac_zero W, Result.andThen]
      exact ⟨rfl, rfl⟩
    · have hb1 : (setBlock W b (.map (es.push ⟨str n, acV ⟨0, 0⟩, clock⟩) (clock + 1))).heap[b]? = some (.map (es.push ⟨str n, acV ⟨0, 0⟩, clock⟩) (clock + 1)) := heap_setBlock_same hb _
      simp [Instr.entryStore, MapKept.run_getObj_map hb1, asInt, asIntOf, push_find hst, push_modify, MapKept.run_setObj_map _ hb1, Result.andThen]
      rw [← hrun]
      simp [setBlock]
  · exfalso
    have hj : es[j]? = some e := by simpa using h2
    simp [Instr.lookup, run_underlying hm, MapKept.run_getObj_map hb, run_checkKey hd hk, run_findKey hd h1, Result.andThen] at hlook
end Go.Proofs.Ytflgnlpippjhcaa
