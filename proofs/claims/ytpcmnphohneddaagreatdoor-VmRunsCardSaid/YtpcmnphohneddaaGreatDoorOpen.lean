/- Arguments of any type: read behind a call that changed nothing that was there as they read before; bytes opened. No condition of the program but three closed facts on its types. -/
import Derived.Test.YtpcmnphohneddaaGreatDoorPost
import Derived.ReadAgain
namespace Go.Proofs.YtpcmnphohneddaaGreatDoor
open Go.ChangeShapes Go.WideShapes Go.ChangeAt Go.RowKit
set_option linter.unusedVariables false

section
variable {H : Type} {enc : TypeId × Value → H} {P : Program}

theorem sameAt_below {W W' : World} (hb : Below W.heap.size W W') {p : MemPlace} (hp : p.block < W.heap.size) : W.sameAt W' p := by
  cases p with
  | cell b off => exact hb.cell (p := ⟨b, off, none⟩) hp
  | map b => exact hb.block b hp

theorem trodAll_carry {W W' : World} {base : Nat} {sp : Nat → Bool} {hd : Bool} : ∀ {ts : List TypeId} {vs : List Value} {ds : List (DataW H)} {ps : List MemPlace},
    DataW.TrodAll enc P W base sp hd ts vs ds ps → (∀ p ∈ ps, W.sameAt W' p) → DataW.TrodAll enc P W' base sp hd ts vs ds ps
  | [], [], [], _, h, _ => h
  | _ :: _, _ :: _, _ :: _, _, ⟨p, q, ⟨n, h1⟩, h2, e⟩, hs =>
    ⟨p, q, ⟨n, DataW.trod_carry n _ _ _ h1 (fun x hx => hs x (by rw [e]; exact List.mem_append_left _ hx))⟩,
      trodAll_carry h2 (fun x hx => hs x (by rw [e]; exact List.mem_append_right _ hx)), e⟩

/-- the row's last step, for arguments of any type -/
theorem post_law {f : Func} {s : ChangeSpec} {apart fresh handsOn again : Bool} {W W' : World} {args : Array Value} {tb : TypeId} {ds gs : List (DataW H)} {before : List MemPlace}
    (K : Kids P (· < P.types.size)) (hz : ∀ t e, t < P.types.size → P.underlying t = some (.slice e) → 0 < P.cellsOf e)
    (hT : ∀ t ∈ f.params.toList, t < P.types.size) (hr : f.resultTypes = #[tb]) (hub : P.underlying tb = some .bool)
    (hW : DataW.Whole enc P f.params.toList s.vars apart W args.toList ds gs before) (hv : s.vars = [])
    (hs : (s.fn H (ds ++ gs)).results = [.lit (.bool true)]) (ha : (s.fn H (ds ++ gs)).args = ds) (hv2 : (s.fn H (ds ++ gs)).vars = []) (hb : Below W.heap.size W W') :
    s.post enc P f apart fresh handsOn again W args (.bool true) W' := by
  have hW' := hW
  have hlt := hW.lt
  obtain ⟨p, q, hA, hV, rfl, hfz, hnd⟩ := hW
  rw [hv] at hV
  obtain ⟨rfl, rfl⟩ := trodVars_none hV
  rw [List.append_nil] at hlt
  refine post_below (pa := p) (pv := []) hW' ?_ ?_ ?_ rfl hb ?_
  · intro b sp hd
    rw [hr, hs]
    exact trodAll_cons_mk (shut_bool hub _) trodAll_mk0
  · intro sp hsp
    rw [ha]
    exact DataW.TrodAll.respare K hz hT (trodAll_carry hA (fun x hx => sameAt_below hb (hlt x hx))) (fun x hx => hsp x (by simpa using hx))
  · intro sp _
    rw [hv, hv2]
    rfl
  · exact ok_one hr rfl (okWide_bool_mk hub _)

/-- a parameter of bytes -/
theorem open_bytes {r : Reach} {b0 : Nat} {W : World} {t e : TypeId} {v : Value} {d : DataW H} {ps : List MemPlace} (ht : P.underlying t = some (.slice e)) (he : P.underlying e = some (.int .u8)) (hc : P.cellsOf e = 1)
    (hval : Value.okWide P W r b0 t v) (h : DataW.Trod enc P W 0 (fun _ => true) true t v d ps) :
    ∃ (B : Option Addr) (l : List UInt8) (c : Nat), v = .slice B l.length c ∧ Rd W B l ∧ l.length ≤ c ∧ c ≤ maxLen := by
  obtain ⟨a, len, cap, rfl⟩ := okWide_slice ht hval
  obtain ⟨fuel, hf⟩ := h
  rcases open_ints ht he hc hf with ⟨h0, _⟩ | ⟨a', len', cap', zs, h0, _, hl, hm, hzl, _, hcell, hwf⟩
  · simp only [Value.cells, List.cons.injEq, Value.slice.injEq, and_true] at h0
    obtain ⟨rfl, rfl, rfl⟩ := h0
    exact ⟨none, [], 0, rfl, Rd.nil _ _, Nat.le_refl _, by simp⟩
  · simp only [Value.cells, List.cons.injEq, Value.slice.injEq, and_true] at h0
    obtain ⟨rfl, rfl, rfl⟩ := h0
    simp only [if_true] at hzl
    have hnum : ∀ n ∈ zs, ((UInt8.ofNat n.toNat).toNat : Int) = n := by
      intro n hn
      obtain ⟨h1, h2⟩ := bounds_u8 (hwf n hn)
      simp only [UInt8.toNat_ofNat']
      omega
    refine ⟨some a', (zs.take len).map (fun n => UInt8.ofNat n.toNat), cap, by simp [hzl, Nat.min_eq_left hl], ?_, by simp [hzl, hl, Nat.min_eq_left hl], hm⟩
    intro i x hx
    rw [List.getElem?_map] at hx
    obtain ⟨n, hn, rfl⟩ := Option.map_eq_some_iff.1 hx
    have hi : i < (zs.take len).length := (List.getElem?_eq_some_iff.1 hn).1
    rw [List.length_take] at hi
    have hn' : zs[i]? = some n := by rw [← hn, List.getElem?_take_of_lt (by omega)]
    obtain ⟨b, off, rfl, hc2⟩ := ints_at hcell (by omega)
    refine ⟨b, off, rfl, ?_⟩
    rw [hc2 i (by omega), List.getD, hn', Option.getD_some, hnum n (List.mem_of_getElem? hn')]
end
end Go.Proofs.YtpcmnphohneddaaGreatDoor
