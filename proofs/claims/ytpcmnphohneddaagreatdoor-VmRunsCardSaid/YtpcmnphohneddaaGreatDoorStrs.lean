/- Rows of strings; what the library's functions for texts need of the world. -/
import Derived.Test.YtpcmnphohneddaaGreatDoorShelf
import Derived.Test.YtpcmnphohneddaaGreatDoorIsa3
import Derived.Deep.AppendLies
import Derived.Sort.Grow
namespace Go.Proofs.YtpcmnphohneddaaGreatDoor
open Go.RowKit
set_option linter.unusedVariables false

theorem addr_plain (b o k : Nat) : (⟨b, o, none⟩ : Addr).add k = ⟨b, o + k, none⟩ := by
  unfold Addr.add
  split <;> simp_all

/-- what the library reads: a table, two errors, a bound -/
structure Env (w : World) : Prop where
  tab : Lib.TabIs Tryz.prog w "internal/strconv.uint64pow10" .u64 Lib.pow10Tab
  syn : ∃ ev, w.cell? ⟨0, 0, none⟩ = some ev ∧ (ev = .nilIface ∨ ∃ te pe, ev = .iface te pe)
  rng : ∃ ev, w.cell? ⟨1, 0, none⟩ = some ev ∧ (ev = .nilIface ∨ ∃ te pe, ev = .iface te pe)
  max : ∃ m, w.cell? ⟨2, 0, none⟩ = some (.int .i64 m)

theorem tabIs_non {n : String} {k : IntKind} {zs : List Int} {w w' : World} (h : Lib.TabIs Tryz.prog w n k zs) (hg : Chg Non w w') : Lib.TabIs Tryz.prog w' n k zs := by
  unfold Lib.TabIs World.var? at h ⊢
  cases hq : Tryz.prog.globalNamed n with
  | none => rw [hq] at h; cases h
  | some g =>
    rw [hq] at h
    simp only [Option.bind_some] at h ⊢
    have hlt : g < w.heap.size := by
      rcases Nat.lt_or_ge g w.heap.size with h' | h'
      · exact h'
      · rw [Array.getElem?_eq_none h'] at h; cases h
    rw [hg.block g hlt (fun e => e)]
    exact h
theorem Env.non {w w' : World} (h : Env w) (hg : Chg Non w w') : Env w' := by
  obtain ⟨h1, ⟨e1, h2, h2'⟩, ⟨e2, h3, h3'⟩, ⟨m, h4⟩⟩ := h
  exact ⟨tabIs_non h1 hg, ⟨e1, hg.cell_some h2 (fun e => e), h2'⟩, ⟨e2, hg.cell_some h3 (fun e => e), h3'⟩, ⟨m, hg.cell_some h4 (fun e => e)⟩⟩

theorem chg_grow (w : World) (os : Array Obj) : Chg Non w (Go.Sort.grow w os) :=
  ⟨rfl, rfl, rfl, by simp [Go.Sort.grow], fun k hk _ => by simp [Go.Sort.grow, Array.getElem?_append_left hk]⟩

theorem itoa_ok (n : Int) (w : World) (hE : Env w) (h0 : -9223372036854775808 ≤ n) (h1 : n ≤ 9223372036854775807) :
    Calls Tryz.prog 81 #[.int .i64 n] w fun e w' => e = .returned (mkStr (Lib.itoa n)) ∧ Chg Non w w' :=
  (Tryz.strconv_Itoa n h0 h1 w hE.tab).mono fun e w' ⟨he, k, os, hw⟩ => ⟨he, by
    subst hw
    exact ((Chg.refl Non w).drewN k).then_non (chg_grow _ _)⟩

/-- the slice that begins at A holds the strings l -/
def RdS (w : World) (A : Option Addr) (l : List (List UInt8)) : Prop :=
  ∀ (i : Nat) (x : List UInt8), l[i]? = some x → ∃ b o, A = some ⟨b, o, none⟩ ∧ w.cell? ⟨b, o + i, none⟩ = some (mkStr x)
theorem RdS.non {w w' : World} {A : Option Addr} {l : List (List UInt8)} (h : RdS w A l) (hg : Chg Non w w') : RdS w' A l := fun i x hx => by
  obtain ⟨b, o, e, hc⟩ := h i x hx
  exact ⟨b, o, e, hg.cell_some hc (fun e => e)⟩

/-- a row of strings of its own -/
def OwnS (B : Nat) (w : World) (v : Value) (l : List (List UInt8)) : Prop := w.ownsRow B 9 1 v l.length (l.map mkStr)
theorem own_chgS {S : Nat → Prop} {w w' : World} {B : Nat} {e : TypeId} {size : Nat} {v : Value} {n : Nat} {xs : List Value} (h : w.ownsRow B e size v n xs) (hg : Chg S w w') (hn : ∀ g, v.ownBlock = some g → ¬ S g) : w'.ownsRow B e size v n xs := by
  refine ⟨h.1, ?_⟩
  rcases h.2 with h0 | ⟨g, cap, cur, rfl, hB, hb, r1⟩
  · exact .inl h0
  · exact .inr ⟨g, cap, cur, rfl, hB, (hg.block g (Array.getElem?_eq_some_iff.1 hb).1 (hn g rfl)).trans hb, r1⟩
theorem OwnS.keep {S : Nat → Prop} {B : Nat} {w w' : World} {v : Value} {l : List (List UInt8)} (h : OwnS B w v l) (hg : Chg S w w') (hn : ∀ g, v.ownBlock = some g → ¬ S g) : OwnS B w' v l := own_chgS h hg hn
theorem OwnS.non {B : Nat} {w w' : World} {v : Value} {l : List (List UInt8)} (h : OwnS B w v l) (hg : Chg Non w w') : OwnS B w' v l := h.keep hg fun _ _ e => e
theorem OwnS.ge {B : Nat} {w : World} {v : Value} {l : List (List UInt8)} (h : OwnS B w v l) {g : Nat} (hg : v.ownBlock = some g) : B ≤ g := by
  rcases h.2 with ⟨rfl, _⟩ | ⟨g2, cap, cur, rfl, hB, _⟩
  · simp [Value.ownBlock] at hg
  · obtain rfl : g2 = g := by simpa [Value.ownBlock] using hg
    exact hB
theorem OwnS.rd {B : Nat} {w : World} {v : Value} {l : List (List UInt8)} (h : OwnS B w v l) : ∃ A c, v = .slice A l.length c ∧ l.length ≤ c ∧ c ≤ maxLen ∧ RdS w A l := by
  rcases h.2 with ⟨rfl, h0⟩ | ⟨g, cap, cur, rfl, hB, hg, h1, h2, h3, h4⟩
  · have : l = [] := List.eq_nil_of_length_eq_zero h0
    subst this
    exact ⟨none, 0, rfl, Nat.le_refl _, by simp, fun i x hx => by simp at hx⟩
  · refine ⟨_, cap, rfl, h1, h2, fun i x hx => ⟨g, 0, rfl, ?_⟩⟩
    have := h.cells (g := g) rfl i (mkStr x) (by rw [List.getElem?_map, hx]; rfl)
    rw [addr_plain] at this
    exact this

theorem info_str : (Tryz.prog.info? 9).map (fun i => (i.zero, i.size, i.bytes)) = some (some (.string ByteArray.empty), 1, 16) := by kernel_rfl
set_option maxRecDepth 10000 in
/-- one string is put behind -/
theorem wp_snocS {o : Oper} {a : Act} {w : World} {K : Act → World → Prop} {Q : Exit → Act → World → Prop} (s x : Operand)
    (ho : o.op = .call { callee := .builtin .append, args := #[s, x], argTypes := #[61, 61] })
    (B : Nat) (v : Value) (l : List (List UInt8)) (hs : a.eval s = v) (hown : OwnS B w v l) (b : Nat) (y : List UInt8) (hx : a.eval x = .slice (some ⟨b, 0, none⟩) 1 1) (hb : w.cell? ⟨b, 0, none⟩ = some (mkStr y))
    (hl : l.length ≤ 1000000) (hB : B ≤ w.heap.size)
    (h : ∀ v2 w2, OwnS B w2 v2 (l ++ [y]) → Chg (fun k => v.ownBlock = some k) w w2 → (v2.ownBlock = v.ownBlock ∨ v2.ownBlock = some w.heap.size) → K (a.put o.dst v2) w2) : o.wp Tryz.prog a w K Q := by
  obtain ⟨i0, hi0, hz0, hs0, hb0⟩ := info_parts info_str
  refine wp_append_lies w s x 61 ho B 9 i0 _ 1 16 Tryz.underlying61 hi0 hz0 hs0 hb0 rfl (by omega) v l.length (l.map mkStr) hs hown ⟨b, 0, none⟩ 1 1 [mkStr y] hx rfl ?_ ?_ (by omega) (by unfold maxLen; omega) (by omega) hB _ rfl ?_
  · intro j u hu
    cases j with
    | zero =>
      simp only [List.getElem?_cons_zero, Option.some.injEq] at hu
      subst hu
      rw [addr_plain]
      exact hb
    | succ j => simp at hu
  · intro u hu
    simp only [List.mem_singleton] at hu
    subst hu
    rfl
  · intro g cap w2 h2 hgrow hat hlt
    refine h _ _ ?_ ?_ ?_
    · unfold OwnS
      rw [List.length_append, List.map_append]
      exact h2
    · exact (Chg.refl _ w).grown hgrow fun g' hg' => .inl hg'
    · rcases hat with h | h
      · exact .inl h.symm
      · exact .inr (by rw [h]; rfl)
end Go.Proofs.YtpcmnphohneddaaGreatDoor
