/- The disk: how it lies in memory; Dirty. -/
import Derived.Test.YthhbdejagglgbaaGreatBytes
import Derived.Test.YthhbdejagglgbaaGreatDk
import Derived.OwnWalkIn
import Derived.LoopNIn
import Derived.Deep.LoopGhost
namespace Go.Proofs.YthhbdejagglgbaaGreat
open Go.RowKit Go.Maps Go.Sort Go.Shelf
set_option linter.unusedVariables false

/-- what a sector is, as a value -/
def secV (l : List UInt8) : Value := .agg (l.map bv).toArray

/-- block b is a map that holds m, in the order in which the keys came -/
def MapIs (w : World) (b : Nat) (m : List (Nat × List UInt8)) : Prop :=
  ∃ es clock, w.heap[b]? = some (.map es clock) ∧ MapKept.Stamped es clock ∧ es.toList.map (fun e => (e.key, e.val)) = m.map (fun p => (Value.int .i64 (p.1 : Int), secV p.2))

/-- a reading of whatever element -/
def R0 : Value → Option (DataW Unit × List MemPlace) := fun _ => some (.nil, [])

theorem insert_perm {H : Type} (x : Lit × DataW H) (l : List (Lit × DataW H)) : (DataW.insert x l).Perm (x :: l) := by
  induction l with
  | nil => exact List.Perm.refl _
  | cons y r ih =>
    unfold DataW.insert
    split
    · exact List.Perm.refl _
    · exact ((ih.cons y).trans (List.Perm.swap _ _ _))
theorem foldr_insert_perm {H : Type} (l : List (Lit × DataW H)) : (l.foldr DataW.insert []).Perm l := by
  induction l with
  | nil => exact List.Perm.refl _
  | cons x r ih => exact (insert_perm x _).trans (ih.cons x)

theorem mapIs_nodup {w : World} {b : Nat} {m : List (Nat × List UInt8)} (h : MapIs w b m) : (m.map (·.1)).Nodup := by
  obtain ⟨es, clock, hb, hs, hm⟩ := h
  have hk : es.toList.map (·.key) = m.map (fun p => Value.int .i64 (p.1 : Int)) := by
    have := congrArg (List.map (·.1)) hm
    simpa [List.map_map, Function.comp_def] using this
  have hn := hs.2.2
  rw [hk, List.Nodup, List.pairwise_map] at hn
  rw [List.Nodup, List.pairwise_map]
  exact hn.imp (fun h e => h (by rw [e]))

theorem mapIs_owns {w : World} {b : Nat} {m : List (Nat × List UInt8)} (h : MapIs w b m) (hk : ∀ p ∈ m, p.1 < 9223372036854775808) (hsz : m.length ≤ maxLen) :
    ∃ D0 : DataW Unit, w.ownsMap Tryz.prog 3 R0 b m.length D0 ∧ Maps.size D0 = m.length ∧ (intKeys D0).Perm (m.map fun p => (p.1 : Int)) := by
  obtain ⟨es, clock, hb, hs, hm⟩ := h
  have hlen : es.size = m.length := by
    have := congrArg List.length hm
    simpa using this
  have hkey : ∀ e ∈ es.toList, ∃ p ∈ m, e.key = .int .i64 (p.1 : Int) ∧ e.val = secV p.2 := by
    intro e he
    have : (e.key, e.val) ∈ m.map (fun p => (Value.int .i64 (p.1 : Int), secV p.2)) := by rw [← hm]; exact List.mem_map.2 ⟨e, he, rfl⟩
    obtain ⟨p, hp, e'⟩ := List.mem_map.1 this
    exact ⟨p, hp, (Prod.mk.inj e').1.symm, (Prod.mk.inj e').2.symm⟩
  have hrd : ∀ e ∈ es.toList, ∀ p ∈ m, e.key = .int .i64 (p.1 : Int) → Go.WideElems.rd Tryz.prog 3 R0 e = some (.int .i64 (p.1 : Int), .nil) := by
    intro e he p hp hek
    have hwf : (Lit.int .i64 (p.1 : Int)).wf = true := WalkArith.wf_i64 (by have := hk p hp; omega)
    unfold Go.WideElems.rd
    rw [hek, Go.Maps.keyOf_int_mk Tryz.underlying3 hwf]
    rfl
  have hrg : es.toList.map (Go.WideElems.rg Tryz.prog 3 R0) = m.map fun p => (Lit.int .i64 (p.1 : Int), (DataW.nil : DataW Unit)) := by
    have h1 : es.toList.map (Go.WideElems.rg Tryz.prog 3 R0) = (es.toList.map (fun e => (e.key, e.val))).map (fun q => (match q.1 with | .int _ n => Lit.int .i64 n | _ => Lit.bool false, (DataW.nil : DataW Unit))) := by
      rw [List.map_map]
      apply List.map_congr_left
      intro e he
      obtain ⟨p, hp, h1, h2⟩ := hkey e he
      simp only [Go.WideElems.rg, hrd e he p hp h1, Option.getD_some, Function.comp, h1]
    rw [h1, hm, List.map_map]
    rfl
  refine ⟨.map ((es.toList.map (Go.WideElems.rg Tryz.prog 3 R0)).foldr DataW.insert []), ⟨es, clock, hb, ⟨by omega, hs, fun e he => ?_⟩, by omega, rfl⟩, ?_, ?_⟩
  · obtain ⟨p, hp, h1, _⟩ := hkey e he
    exact ⟨_, hrd e he p hp h1⟩
  · have := (foldr_insert_perm (es.toList.map (Go.WideElems.rg Tryz.prog 3 R0))).length_eq
    simp only [Maps.size]
    rw [this, hrg, List.length_map]
  · rw [hrg]
    simp only [intKeys]
    refine ((foldr_insert_perm _).map _).trans ?_
    rw [List.map_map]
    exact List.Perm.refl _

theorem dirty_perm (m : List (Nat × List UInt8)) : (dirty m).Perm (m.map (·.1)) := List.mergeSort_perm _ _
theorem dirty_length (m : List (Nat × List UInt8)) : (dirty m).length = m.length := by rw [(dirty_perm m).length_eq, List.length_map]
theorem dirty_sorted (m : List (Nat × List UInt8)) : (dirty m).Pairwise (· ≤ ·) := by
  have := List.pairwise_mergeSort (le := fun a b : Nat => decide (a ≤ b)) (by intro a b c; simp; omega) (by intro a b; simp; omega) (m.map (·.1))
  exact this.imp (fun h => by simpa using h)

theorem dirty_cast (m : List (Nat × List UInt8)) (ss : List Int) (h : ss.Perm (m.map fun p => (p.1 : Int))) : (ss.mergeSort fun x y => decide (x ≤ y)) = (dirty m).map (fun k : Nat => (k : Int)) := by
  have h1 : ss.Perm ((dirty m).map (fun k : Nat => (k : Int))) := by
    refine h.trans ?_
    have := (dirty_perm m).symm.map (fun k : Nat => (k : Int))
    rw [List.map_map] at this
    exact this
  have h2 : (ss.mergeSort fun x y => decide (x ≤ y)) = ((dirty m).map (fun k : Nat => (k : Int))).mergeSort fun x y => decide (x ≤ y) := mergeSort_of_perm_i h1
  rw [h2]
  refine List.mergeSort_of_pairwise ?_
  rw [List.pairwise_map]
  exact (dirty_sorted m).imp (fun h => by simpa using h)

theorem sortsA (m : Nat) : AnyZI.SortsIn Tryz.prog Tryz.sortedA_ren Fence.wide m :=
  ⟨fun blk off cap ss W hH hblk hsz => callsIn_wide.2 (AnyM.slices_Sort_int Tryz.sortA blk off cap ss W hH hblk hsz),
   fun p cap W => callsIn_wide.2 (AnyM.slices_Sort_int_none Tryz.sortA p cap W)⟩

/-- 'slices.Sorted(maps.Keys(m))' as two contracts: what maps.Keys hands back; slices.Sorted of it. -/
theorem keys_in (mb : Option Nat) (W : World) : Calls Tryz.prog 116 #[.map mb] W fun e w' => e = .returned (.func (.func 130) #[] #[.pointer (some ⟨W.heap.size, 0, none⟩)]) ∧ w' = W.alloc (.cells #[.map mb] 28) :=
  (callsIn_wide (n := 5)).1 (AnyZI.keys_in Tryz.keysA Fence.wide 5 trivial rfl mb W)

set_option maxHeartbeats 1000000 in
theorem sorted_keys (b : Nat) (m : List (Nat × List UInt8)) (w : World) (hm : MapIs w b m) (hk : ∀ p ∈ m, p.1 < 1024) (hsz : m.length ≤ 1024) :
    Calls Tryz.prog 115 #[.func (.func 130) #[] #[.pointer (some ⟨w.heap.size, 0, none⟩)]] (w.alloc (.cells #[.map (some b)] 28)) fun e w' => ∃ v, e = .returned v ∧
      w'.ownsRow w.heap.size 3 1 v (dirty m).length ((dirty m).map fun k : Nat => Value.int .i64 (k : Int)) ∧ Chg Non w w' := by
  obtain ⟨D0, hown, hmz, hperm⟩ := mapIs_owns hm (fun p hp => by have := hk p hp; omega) (by unfold maxLen; omega)
  have hbl := hown.lt
  have hseq : SeqGives Fence.wide 2 Tryz.prog 130 #[.pointer (some ⟨w.heap.size, 0, none⟩)] encZ (fun ss => ss.Perm (intKeys D0)) (Maps.size D0) (w.alloc (.cells #[.map (some b)] 28)) :=
    AnyZI.keys_gives (ρ := Tryz.keysA_ren) { Tryz.keysA with } Fence.wide _ trivial rfl (by omega) w.heap.size b m.length D0 _ (by simp) (by simp) (by
      obtain ⟨es, clock, hb, Ft, hs, hD⟩ := hown
      exact ⟨es, clock, (Below.heap_alloc _ _ b hbl).trans hb, Ft, hs, hD⟩)
  have cS := AnyZI.sorted_in Tryz.sortedA Fence.wide 5 trivial trivial trivial trivial rfl (by omega) (sortsA _) (enters_of Tryz.func129 (by kernel_rfl) rfl) 130 #[.pointer (some ⟨w.heap.size, 0, none⟩)] trivial (enters_of Tryz.func130 (by kernel_rfl) rfl) _ _ (by rw [hmz]; unfold maxLen; omega) (by rw [hmz]; omega) _ hseq
  change CallsIn _ _ Tryz.prog 115 _ _ _ at cS
  refine ((callsIn_wide (n := 5)).1 cS).mono ?_
  rintro e w' ⟨v, ss, rfl, hS, hrow, hnil, hb⟩
  refine ⟨v, rfl, ?_, .of_below (((Below.refl _ w).alloc (Nat.le_refl _) _).trans (hb.mono (by simp))) (Nat.le_refl _)⟩
  have hp := hS.trans hperm
  have hd := dirty_cast m ss hp
  have hl : ss.length = (dirty m).length := by rw [hp.length_eq, List.length_map, dirty_length]
  rw [hd, hl, List.map_map] at hrow
  exact ownsRow_base_a hrow (by simp)
end Go.Proofs.YthhbdejagglgbaaGreat
