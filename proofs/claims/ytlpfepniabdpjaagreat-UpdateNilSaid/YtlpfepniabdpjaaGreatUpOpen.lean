/- A parameter that is an act of an update's script, opened. -/
import Derived.Test.YtlpfepniabdpjaaGreatUpNil2
import Derived.Test.YtlpfepniabdpjaaGreatOpen
import Derived.Deep.Slices
namespace Go.Proofs.YtlpfepniabdpjaaGreat
open Go.ChangeShapes Go.WideShapes Go.ChangeAt Go.RowKit
set_option linter.unusedVariables false

theorem take_one {cs : List Value} {k : Nat} {v : Value} (h : (cs.drop k).take 1 = [v]) : cs[k]? = some v := by
  have h1 : ((cs.drop k).take 1)[0]? = some v := by rw [h]; rfl
  rw [List.getElem?_take_of_lt (by omega), List.getElem?_drop, Nat.add_zero] at h1
  exact h1

section
variable {H : Type} {enc : TypeId × Value → H} {W : World}
theorem slice_is {P : Program} {t e : TypeId} {fuel : Nat} {cs : List Value} {x : DataW H × List MemPlace} (ht : P.underlying t = some (.slice e)) (h : DataW.trod enc P W 0 (fun _ => true) true fuel t cs = some x) :
    ∃ a n c, cs = [.slice a n c] ∧ n ≤ c ∧ c ≤ maxLen := by
  rcases Go.Deep.open_slice ht h with ⟨h0, _⟩ | ⟨a', len', cap', m, n, Dd, Pl, h0, _, hl, hm, hmm, _, hcell⟩
  · exact ⟨none, 0, 0, h0, Nat.le_refl _, by simp⟩
  · exact ⟨some a', len', cap', h0, hl, hm⟩

set_option maxRecDepth 100000 in
theorem parts_is {fuel : Nat} {cs : List Value} {x : DataW H × List MemPlace} (h : DataW.trod enc Tryz.prog W 0 (fun _ => true) true fuel 26 cs = some x) :
    ∃ a n c, cs = [.slice a n c] ∧ n ≤ c ∧ c ≤ maxLen ∧ PartsOk W a n := by
  rcases Go.Deep.open_slice Tryz.underlying26 h with ⟨h0, _⟩ | ⟨a', len', cap', m, n, Dd, Pl, h0, _, hl, hm, hmm, _, hcell⟩
  · exact ⟨none, 0, 0, h0, Nat.le_refl _, by simp, fun i h => by omega⟩
  · refine ⟨some a', len', cap', h0, hl, hm, fun i hi => ?_⟩
    simp only [if_true] at hmm
    have c5 : Tryz.prog.cellsOf 75 = 5 := by kernel_rfl
    have c1 : Tryz.prog.cellsOf 22 = 1 := by kernel_rfl
    obtain ⟨cs', h1, h2⟩ := hcell i (by omega)
    rw [c5] at h1
    obtain ⟨xs, n', _, _, hl5, hxl, hx⟩ := DataW.trod_struct Tryz.underlying75 h2
    rw [c5] at hl5
    have hxl' : xs.length = 4 := hxl
    have q3 : DataW.trod enc Tryz.prog W 0 (fun _ => true) true n' 22 ((cs'.drop 4).take (Tryz.prog.cellsOf 22)) = xs[3]? := hx 3 _ rfl
    rw [c1, List.getElem?_eq_getElem (by omega)] at q3
    obtain ⟨a, k, c, hs, _, _⟩ := slice_is Tryz.underlying22 q3
    have h4 := take_one hs
    obtain ⟨_, _, hc⟩ := World.cells?_some h1
    have hv := hc 4 (by omega)
    rw [h4] at hv
    obtain ⟨b, off, spot⟩ := a'
    have hspot : spot = none := by
      obtain ⟨cs0, g1, g2⟩ := hcell 0 (by omega)
      rw [c5] at g1
      obtain ⟨xs0, n0, _, _, gl5, _, _⟩ := DataW.trod_struct Tryz.underlying75 g2
      rw [c5] at gl5
      obtain ⟨_, _, gc⟩ := World.cells?_some g1
      have h00 := gc 0 (by omega)
      rw [List.getElem?_eq_getElem (by omega)] at h00
      have := World.cell?_spot h00
      simpa [Addr.add] using this
    subst hspot
    refine ⟨b, off, a, k, c, rfl, ?_⟩
    rw [Go.WideShapes.add_plain, Go.WideShapes.add_plain] at hv
    exact hv

set_option maxRecDepth 100000 in
theorem open_act {r0 : Reach} {b0 : Nat} {v : Value} {d : DataW H} {ps : List MemPlace} (hval : Value.okWide Tryz.prog W r0 b0 35 v) (h : DataW.Trod enc Tryz.prog W 0 (fun _ => true) true 35 v d ps) :
    ∃ (C M R : Array Value) (aB aW aP aC : Option Addr) (nB cB nW cW nP cP nC cC : Nat), v = .agg C ∧ C.size = 109 ∧ C[3]? = some (.slice aB nB cB) ∧ M.size = 69 ∧ (C.toList.drop 4).take 69 = M.toList ∧ R.size = 36 ∧ (C.toList.drop 73).take 36 = R.toList ∧
      M[34]? = some (.slice aW nW cW) ∧ M[35]? = some (.slice aP nP cP) ∧ M[36]? = some (.slice aC nC cC) ∧ PartsOk W aP nP ∧ nP ≤ maxLen ∧ nB ≤ maxLen := by
  obtain ⟨C, rfl, _⟩ := okWide_struct Tryz.underlying35 hval
  obtain ⟨fuel, hf⟩ := h
  obtain ⟨xs, n, _, _, hl, hxl, hx⟩ := DataW.trod_struct Tryz.underlying35 hf
  have hl' : C.toList.length = 109 := hl.trans (by kernel_rfl)
  have hxl' : xs.length = 6 := hxl
  have cb : Tryz.prog.cellsOf 22 = 1 := by kernel_rfl
  have cm : Tryz.prog.cellsOf 31 = 69 := by kernel_rfl
  have cg : Tryz.prog.cellsOf 29 = 3 := by kernel_rfl
  have cw : Tryz.prog.cellsOf 25 = 1 := by kernel_rfl
  have cp : Tryz.prog.cellsOf 26 = 1 := by kernel_rfl
  have cc : Tryz.prog.cellsOf 27 = 1 := by kernel_rfl
  have q3 : DataW.trod enc Tryz.prog W 0 (fun _ => true) true n 22 ((C.toList.drop 3).take (Tryz.prog.cellsOf 22)) = xs[3]? := hx 3 _ rfl
  have q4 : DataW.trod enc Tryz.prog W 0 (fun _ => true) true n 31 ((C.toList.drop 4).take (Tryz.prog.cellsOf 31)) = xs[4]? := hx 4 _ rfl
  rw [cb, List.getElem?_eq_getElem (by omega)] at q3
  rw [cm, List.getElem?_eq_getElem (by omega)] at q4
  obtain ⟨aB, nB, cB, hB, hB1, hB2⟩ := slice_is Tryz.underlying22 q3
  obtain ⟨ms, hms⟩ : ∃ ms, (C.toList.drop 4).take 69 = ms := ⟨_, rfl⟩
  rw [hms] at q4
  have hml : ms.length = 69 := by rw [← hms, List.length_take, List.length_drop]; omega
  obtain ⟨ys, n2, _, _, _, hyl, hy⟩ := DataW.trod_struct Tryz.underlying31 q4
  have hyl' : ys.length = 5 := hyl
  have r3 : DataW.trod enc Tryz.prog W 0 (fun _ => true) true n2 29 ((ms.drop 34).take (Tryz.prog.cellsOf 29)) = ys[3]? := hy 3 _ rfl
  rw [cg, List.getElem?_eq_getElem (by omega)] at r3
  obtain ⟨gs, hgs⟩ : ∃ gs, (ms.drop 34).take 3 = gs := ⟨_, rfl⟩
  rw [hgs] at r3
  obtain ⟨zs, n3, _, _, _, hzl, hz⟩ := DataW.trod_struct Tryz.underlying29 r3
  have hzl' : zs.length = 3 := hzl
  have s0 : DataW.trod enc Tryz.prog W 0 (fun _ => true) true n3 25 ((gs.drop 0).take (Tryz.prog.cellsOf 25)) = zs[0]? := hz 0 _ rfl
  have s1 : DataW.trod enc Tryz.prog W 0 (fun _ => true) true n3 26 ((gs.drop 1).take (Tryz.prog.cellsOf 26)) = zs[1]? := hz 1 _ rfl
  have s2 : DataW.trod enc Tryz.prog W 0 (fun _ => true) true n3 27 ((gs.drop 2).take (Tryz.prog.cellsOf 27)) = zs[2]? := hz 2 _ rfl
  rw [cw, List.getElem?_eq_getElem (by omega)] at s0
  rw [cp, List.getElem?_eq_getElem (by omega)] at s1
  rw [cc, List.getElem?_eq_getElem (by omega)] at s2
  obtain ⟨aW, nW, cW, hW, _, _⟩ := slice_is Tryz.underlying25 s0
  obtain ⟨aP, nP, cP, hP, hP1, hP2, hPo⟩ := parts_is s1
  obtain ⟨aC, nC, cC, hC, _, _⟩ := slice_is Tryz.underlying27 s2
  have at_ : ∀ k v, k < 3 → gs[k]? = some v → ms[34 + k]? = some v := by
    intro k v hk hv
    rw [← hgs, List.getElem?_take_of_lt hk, List.getElem?_drop] at hv
    exact hv
  refine ⟨C, ms.toArray, ((C.toList.drop 73).take 36).toArray, aB, aW, aP, aC, nB, cB, nW, cW, nP, cP, nC, cC, rfl, by simpa using hl', ?_, by simpa using hml, by simpa using hms, ?_, by simp, ?_, ?_, ?_, hPo, by omega, by omega⟩
  · have := take_one hB
    simpa using this
  · simp only [List.size_toArray, List.length_take, List.length_drop]
    omega
  · have := at_ 0 _ (by omega) (take_one hW)
    simpa using this
  · have := at_ 1 _ (by omega) (take_one hP)
    simpa using this
  · have := at_ 2 _ (by omega) (take_one hC)
    simpa using this
end
end Go.Proofs.YtlpfepniabdpjaaGreat
