/- Back: how long a scene's lists can be. -/
import Derived.Test.YtkgphbjneaagoaaDoorGo
import Derived.SizedLaws
set_option linter.unusedVariables false
set_option maxRecDepth 100000
namespace Go.Proofs.YtkgphbjneaagoaaDoor
open Go.ChangeShapes Go.WideShapes Go.ChangeAt Go.RowKit Go.Deep

theorem scene_sized {H : Type} {enc : TypeId × Value → H} {W : World} {now : Int} {up : NS} {A B : Option Addr} {n c m e : Nat} {d : DataW H} {p : List MemPlace}
    (h : DataW.Trod enc Tryd.prog W 0 (fun _ => true) true 28 (scV now up A n c B m e) d p) {ts : List TypeId} {ds : List (DataW H)}
    (hsz : (DataW.weightsEach Tryd.prog ts ds).all (· ≤ reachBytes) = true) (ht : ts[0]? = some 28) (hd : ds[0]? = some d) :
    n * 40 ≤ 140737488355328 ∧ m * 56 ≤ 140737488355328 := by
  have h_int : Tryd.prog.cellsOf 3 = 1 := by kernel_rfl
  have h_ns : Tryd.prog.cellsOf 24 = 4 := by kernel_rfl
  have h_ru : Tryd.prog.cellsOf 25 = 1 := by kernel_rfl
  have h_wi : Tryd.prog.cellsOf 26 = 1 := by kernel_rfl
  have b_ru : Tryd.prog.bytesOf 55 = 40 := by kernel_rfl
  have b_wi : Tryd.prog.bytesOf 49 = 56 := by kernel_rfl
  have hw : ∀ q ∈ DataW.weights Tryd.prog 28 d, q ≤ reachBytes := fun q hq => by
    have := List.all_eq_true.1 hsz _ (DataW.weights_mem_each ht hd q hq)
    simpa using this
  clear hsz
  obtain ⟨fuel, hf0⟩ := h
  have hf : DataW.trod enc Tryd.prog W 0 (fun _ => true) true fuel 28 ([.int .i64 now, .int .u64 (wn up 0 : Nat), .int .u64 (wn up 1 : Nat), .int .u64 (wn up 2 : Nat), .int .u64 (wn up 3 : Nat), .slice A n c, .slice B m e] : List Value) = some (d, p) := hf0
  obtain ⟨xs, k, _, hx, hl, hlen, hg⟩ := DataW.trod_struct Tryd.underlying28 hf
  match xs, hlen, hx, hg with
  | [y0, y1, y2, y3], _, hx, hg =>
    have g2 : DataW.trod enc Tryd.prog W 0 (fun _ => true) true k 25 (([.int .i64 now, .int .u64 (wn up 0 : Nat), .int .u64 (wn up 1 : Nat), .int .u64 (wn up 2 : Nat), .int .u64 (wn up 3 : Nat), .slice A n c, .slice B m e] : List Value).drop (5) |>.take (Tryd.prog.cellsOf 25)) = some y2 := hg 2 _ rfl
    rw [h_ru] at g2
    have g3 : DataW.trod enc Tryd.prog W 0 (fun _ => true) true k 26 (([.int .i64 now, .int .u64 (wn up 0 : Nat), .int .u64 (wn up 1 : Nat), .int .u64 (wn up 2 : Nat), .int .u64 (wn up 3 : Nat), .slice A n c, .slice B m e] : List Value).drop (6) |>.take (Tryd.prog.cellsOf 26)) = some y3 := hg 3 _ rfl
    rw [h_wi] at g3
    have hd2 : d = .agg [y0.1, y1.1, y2.1, y3.1] := congrArg Prod.fst hx
    have e0 : DataW.weights Tryd.prog 28 d = DataW.weightsEach Tryd.prog [3, 24, 25, 26] [y0.1, y1.1, y2.1, y3.1] := by
      rw [hd2]
      unfold DataW.weights
      rw [Tryd.underlying28]
      rfl
    rw [e0] at hw
    constructor
    · rcases open_slice Tryd.underlying25 g2 with ⟨hcs, _⟩ | ⟨a, len, cap, mm, k2, D, Pl, hcs, _, _, _, _, hx2, _⟩
      · simp at hcs
        omega
      · simp at hcs
        have h3 := hw ((((List.range len).map D).length + ((List.range (mm - len)).map fun j => D (len + j)).length) * Tryd.prog.bytesOf 55) (DataW.weights_mem_each (j := 2) (t := 25) (d := y2.1) rfl rfl _ (by rw [hx2]; simp [DataW.weights, Tryd.underlying25]))
        rw [b_ru] at h3
        simp only [List.length_map, List.length_range, reachBytes] at h3
        omega
    · rcases open_slice Tryd.underlying26 g3 with ⟨hcs, _⟩ | ⟨a, len, cap, mm, k2, D, Pl, hcs, _, _, _, _, hx2, _⟩
      · simp at hcs
        omega
      · simp at hcs
        have h3 := hw ((((List.range len).map D).length + ((List.range (mm - len)).map fun j => D (len + j)).length) * Tryd.prog.bytesOf 49) (DataW.weights_mem_each (j := 3) (t := 26) (d := y3.1) rfl rfl _ (by rw [hx2]; simp [DataW.weights, Tryd.underlying26]))
        rw [b_wi] at h3
        simp only [List.length_map, List.length_range, reachBytes] at h3
        omega
end Go.Proofs.YtkgphbjneaagoaaDoor
