/- Rows of bytes of one's own: bytes put behind; a string of them. -/
import Derived.Test.YtpcmnphohneddaaGreatDoorRows
import Derived.Test.YtpcmnphohneddaaGreatDoorTypes
import Derived.Test.YtpcmnphohneddaaGreatDoorGen
import Derived.Deep.AppendLies
namespace Go.Proofs.YtpcmnphohneddaaGreatDoor
open Go.RowKit
set_option linter.unusedVariables false

theorem plain_add (b o k : Nat) : (⟨b, o, none⟩ : Addr).add k = ⟨b, o + k, none⟩ := by
  unfold Addr.add
  split <;> simp_all
/-- a row of bytes of its own (since B), or none yet -/
def OwnR (B : Nat) (w : World) (v : Value) (l : List UInt8) : Prop := w.ownsRow B 5 1 v l.length (l.map bv)
theorem OwnR.nil (B : Nat) (w : World) : OwnR B w (.slice none 0 0) [] := World.ownsRow_nil _ _ _ _
theorem OwnR.keep {S : Nat → Prop} {B : Nat} {w w' : World} {v : Value} {l : List UInt8} (h : OwnR B w v l) (hg : Chg S w w') (hn : ∀ g, v.ownBlock = some g → ¬ S g) : OwnR B w' v l := by
  refine ⟨h.1, ?_⟩
  rcases h.2 with h0 | ⟨g, cap, cur, rfl, hB, hb, r1⟩
  · exact .inl h0
  · exact .inr ⟨g, cap, cur, rfl, hB, (hg.block g (Array.getElem?_eq_some_iff.1 hb).1 (hn g rfl)).trans hb, r1⟩
theorem OwnR.non {B : Nat} {w w' : World} {v : Value} {l : List UInt8} (h : OwnR B w v l) (hg : Chg Non w w') : OwnR B w' v l := h.keep hg fun _ _ e => e
theorem OwnR.ge {B : Nat} {w : World} {v : Value} {l : List UInt8} (h : OwnR B w v l) {g : Nat} (hg : v.ownBlock = some g) : B ≤ g := by
  rcases h.2 with ⟨rfl, _⟩ | ⟨g2, cap, cur, rfl, hB, _⟩
  · simp [Value.ownBlock] at hg
  · obtain rfl : g2 = g := by simpa [Value.ownBlock] using hg
    exact hB
theorem OwnR.rd {B : Nat} {w : World} {v : Value} {l : List UInt8} (h : OwnR B w v l) : ∃ A c, v = .slice A l.length c ∧ l.length ≤ c ∧ c ≤ maxLen ∧ Rd w A l := by
  rcases h.2 with ⟨rfl, h0⟩ | ⟨g, cap, cur, rfl, hB, hg, h1, h2, h3, h4⟩
  · have : l = [] := List.eq_nil_of_length_eq_zero h0
    subst this
    exact ⟨none, 0, rfl, Nat.le_refl _, by simp, fun i x hx => by simp at hx⟩
  · refine ⟨_, cap, rfl, h1, h2, fun i x hx => ⟨g, 0, rfl, ?_⟩⟩
    have := h.cells (g := g) rfl i (bv x) (by rw [List.getElem?_map, hx]; rfl)
    rw [plain_add] at this
    exact this

set_option maxRecDepth 10000 in
/-- bytes put behind -/
theorem wpList_appR {ops : Array Oper} {rest : List Oper} {o : Oper} {a : Act} {w : World} {Q : Exit → Act → World → Prop} (hgd : o.guard = none) (s x : Operand)
    (ho : o.op = .call { callee := .builtin .append, args := #[s, x], argTypes := #[24, 24] })
    (B : Nat) (v : Value) (l : List UInt8) (hs : a.eval s = v) (hown : OwnR B w v l) (b k c : Nat) (y : List UInt8) (hx : a.eval x = .slice (some ⟨b, k, none⟩) y.length c)
    (hb : ∀ j u, y[j]? = some u → w.cell? ⟨b, k + j, none⟩ = some (bv u)) (hy : y ≠ [])
    (hl : l.length ≤ 1000000) (hly : y.length ≤ 1000000) (hB : B ≤ w.heap.size)
    (h : ∀ v2 w2, OwnR B w2 v2 (l ++ y) → Chg (fun k => v.ownBlock = some k) w w2 → (v2.ownBlock = v.ownBlock ∨ v2.ownBlock = some w.heap.size) → wpList Tryz.prog ops Q rest (a.put o.dst v2) w2) : wpList Tryz.prog ops Q (o :: rest) a w := by
  obtain ⟨i0, hi0, hz0, hs0, hb0⟩ := info_parts info_u8
  have hy0 : 0 < y.length := List.length_pos_iff.2 hy
  refine wpList_append_lies w hgd s x 24 ho B 5 i0 _ 1 1 Tryz.underlying24 hi0 hz0 hs0 hb0 rfl (by omega) v l.length (l.map bv) hs hown ⟨b, k, none⟩ y.length c (y.map bv) hx (by simp) ?_ ?_ hy0 (by unfold maxLen; omega) (by omega) hB _ rfl ?_
  · intro j u hu
    rw [List.getElem?_map] at hu
    obtain ⟨z, hz, rfl⟩ := Option.map_eq_some_iff.1 hu
    rw [plain_add]
    exact hb j z hz
  · intro u hu
    obtain ⟨z, _, rfl⟩ := List.mem_map.1 hu
    rfl
  · intro g cap w2 h2 hgrow hat hlt
    refine h _ _ ?_ ?_ ?_
    · unfold OwnR
      rw [List.length_append, List.map_append]
      exact h2
    · exact (Chg.refl _ w).grown hgrow fun g' hg' => .inl hg'
    · rcases hat with h | h
      · exact .inl h.symm
      · exact .inr (by rw [h]; rfl)

/-- bytes as a string -/
theorem str_of (A : Option Addr) (l : List UInt8) (c : Nat) (w : World) (h : Rd w A l) :
    (convert 24 9 (.slice A l.length c)).run Tryz.prog w = .ok (.string ⟨l.toArray⟩) w := by
  rcases Nat.eq_zero_or_pos l.length with h0 | h0
  · obtain rfl := List.eq_nil_of_length_eq_zero h0
    cases A with
    | none => exact run_convert_bytes_nil w _ _ Tryz.underlying24 Tryz.underlying5 _ _ _ Tryz.underlying9
    | some a =>
      have hl : (loadCells a 0).run Tryz.prog w = .ok (([] : List Int).map (Value.int .u8)).toArray w := run_loadCells_list (P := Tryz.prog) w a [] (fun j v hj => by simp at hj)
      show (convert 24 9 (.slice (some a) 0 c)).run Tryz.prog w = _
      rw [run_convert_bytes_string w _ _ _ _ 0 c Tryz.underlying24 Tryz.underlying5 Tryz.underlying9, run_bytesToString w _ 0 c [] hl]
      rfl
  · obtain ⟨b, o, rfl, _, hc⟩ := h.at_ h0
    rw [run_convert_bytes_arg w _ _ Tryz.underlying24 Tryz.underlying5 b o l.length c (l.map fun x => (x.toNat : Int)) (by simp) (fun i hi => by rw [hc i hi]; simp [List.getD, List.getElem?_eq_getElem hi]) _ Tryz.underlying9]
    congr 2
    unfold strOfNums
    congr 2
    rw [List.map_map]
    conv => rhs; rw [← List.map_id l]
    apply List.map_congr_left
    intro x _
    simp
end Go.Proofs.YtpcmnphohneddaaGreatDoor
