/- Helpers for VmBlind: ways through a plain region that meet again; a byte of bytes of one's own. -/
import Derived.Test.YtpcmnphohneddaaGreatDoorVp2
namespace Go.Proofs.YtpcmnphohneddaaGreatDoor
open Go.RowKit
set_option linter.unusedVariables false

theorem oper_mono {P : Program} {Q Q' : Exit → Act → World → Prop} (hq : ∀ e a w, Q e a w → Q' e a w) {o : Oper} {a : Act} {w : World} {K K' : Act → World → Prop} (h : ∀ a w, K a w → K' a w) (hh : o.wp P a w K Q) : o.wp P a w K' Q' := by
  have hl : LetsOut Q → LetsOut Q' := fun ⟨a, w, x⟩ => ⟨a, w, hq _ _ _ x⟩
  unfold Oper.wp at *
  generalize (execOp a.eval o).run P w = r at *
  cases r with
  | ok n w' =>
    cases n <;> simp only [Oper.upon] at hh ⊢ <;>
      first
        | exact h _ _ hh
        | exact Calls.mono hh (fun e w'' he => by cases e <;> first | exact h _ _ he | exact hq _ _ _ he | exact hl he)
        | exact Rows.mono hh (fun _ _ he => h _ _ he)
  | halt x w' => cases x <;> simp only [Oper.upon] at hh ⊢ <;> first | exact hq _ _ _ hh | exact hh
theorem wpList_mono {P : Program} {ops : Array Oper} {Q Q' : Exit → Act → World → Prop} (hq : ∀ e a w, Q e a w → Q' e a w) : ∀ (l : List Oper) (a : Act) (w : World), wpList P ops Q l a w → wpList P ops Q' l a w := by
  intro l
  induction l with
  | nil => intro a w h; exact hq _ _ _ h
  | cons o l ih =>
    intro a w h
    unfold wpList at h ⊢
    split
    · rename_i hw
      rw [if_pos hw] at h
      rcases h with h | ⟨h1, a', w', h2⟩
      · exact .inl (oper_mono hq (fun a w hk => ih a w hk) h)
      · exact .inr ⟨h1, a', w', hq _ _ _ h2⟩
    · rename_i hw
      rw [if_neg hw] at h
      exact ih _ _ h
structure CutR {α : Type} (f : α → Act → Act) (R : α → World → Prop) (a x : Act) (v : World) : Prop where
  out : ∃ y, x = f y a ∧ R y v
/-- ways through the rest of a plain region meet again -/
theorem wpList_cut {P : Program} {ops : Array Oper} {Q : Exit → Act → World → Prop} {l : List Oper} {a : Act} {w : World} {α : Type} (f : α → Act → Act) (R : α → World → Prop)
    (h : wpList P ops (fun e x v => e = .normal ∧ CutR f R a x v) l a w) (hk : ∀ y v, R y v → Q .normal (f y a) v) : wpList P ops Q l a w :=
  wpList_mono (fun e x v ⟨he, hx⟩ => by obtain ⟨y, hx, hr⟩ := hx; subst he; subst hx; exact hk y v hr) _ _ _ h
theorem rd_setByteA {b o : Nat} {W : World} {l : List UInt8} (h : Rd W (some ⟨b, o, none⟩) l) (k : Nat) (hk : k < l.length) (y : UInt8) :
    Rd (W.setCell ⟨b, o + k, none⟩ (.int .u8 (y.toNat : Nat))) (some ⟨b, o, none⟩) (l.set k y) := by
  intro i x hx
  refine ⟨b, o, rfl, ?_⟩
  by_cases hi : i = k
  · subst hi
    rw [List.getElem?_set_self hk] at hx
    simp only [Option.some.injEq] at hx
    subst hx
    have hc := u8_cell h i hk
    rw [World.cell?_setCell_same W _ _ (by rw [hc])]
  · rw [List.getElem?_set_ne (by omega)] at hx
    obtain ⟨b', o', e, hc⟩ := h i x hx
    injection e with e
    injection e with e1 e2 _
    subst e1 e2
    rw [World.cell?_setCell_other W _ _ _ (by intro e; injection e with _ e _; omega)]
    exact hc
theorem Own.setByte {B b o : Nat} {W : World} {l : List UInt8} (h : Own B W (some ⟨b, o, none⟩) l) (k : Nat) (hk : k < l.length) (y : UInt8) :
    Own B (W.setCell ⟨b, o + k, none⟩ (.int .u8 (y.toNat : Nat))) (some ⟨b, o, none⟩) (l.set k y) := by
  intro i z hz
  have hi : i < l.length := by have := (List.getElem?_eq_some_iff.1 hz).1; simpa using this
  obtain ⟨b', o', e, hB, hc, hf⟩ := h i l[i] (List.getElem?_eq_getElem hi)
  injection e with e
  injection e with e1 e2 _
  subst e1 e2
  refine ⟨b, o, rfl, hB, ?_, ?_⟩
  · obtain ⟨b', o', e, hc⟩ := rd_setByteA h.rd k hk y i z hz
    injection e with e
    injection e with e1 e2 _
    subst e1 e2
    exact hc
  · rw [← hf]
    simp only [World.frozen?_setCell]
theorem cut4 (l : List UInt8) (a : Nat) (h : a + 4 ≤ l.length) : cut l a 4 = [l.getD a 0, l.getD (a + 1) 0, l.getD (a + 2) 0, l.getD (a + 3) 0] := by
  unfold cut
  apply List.ext_getElem?
  intro i
  rcases Nat.lt_or_ge i 4 with hi | hi
  · rw [List.getElem?_take_of_lt hi, List.getElem?_drop, List.getElem?_eq_getElem (by omega)]
    have h' : i = 0 ∨ i = 1 ∨ i = 2 ∨ i = 3 := by omega
    rcases h' with rfl | rfl | rfl | rfl <;> simp [List.getD_eq_getElem?_getD, show a < l.length by omega, show a + 1 < l.length by omega, show a + 2 < l.length by omega, show a + 3 < l.length by omega]
  · rw [List.getElem?_eq_none (by simp; omega), List.getElem?_eq_none (by simp; omega)]
theorem uModN (a : Int) (N : Nat) (h0 : 0 < N) (hN : N ≤ 1000000) : ∃ n : Nat, n < N ∧ wrap64 ((IntKind.u64.wrap a).tmod (N : Int)) = n := by
  have h : (IntKind.u64.wrap a) = a % 18446744073709551616 := IntKind.wrap_u64 a
  rw [h, Int.tmod_eq_emod_of_nonneg (by omega)]
  have h1 : 0 ≤ a % 18446744073709551616 % (N : Int) := Int.emod_nonneg _ (by omega)
  have h2 : a % 18446744073709551616 % (N : Int) < N := Int.emod_lt_of_pos _ (by omega)
  refine ⟨(a % 18446744073709551616 % (N : Int)).toNat, by omega, ?_⟩
  unfold wrap64
  omega
theorem modify_set (l : List UInt8) (k : Nat) (y : UInt8) : l.modify k (· ^^^ y) = l.set k (l.getD k 0 ^^^ y) := by
  apply List.ext_getElem?
  intro j
  rw [modify_at, List.getElem?_set]
  split
  · rename_i h
    subst h
    split
    · rename_i hk
      rw [List.getElem?_eq_getElem hk, List.getD_eq_getElem?_getD, List.getElem?_eq_getElem hk]
      rfl
    · rename_i hk
      rw [List.getElem?_eq_none (by omega)]
      rfl
  · rfl
theorem xor_u8 (x y : UInt8) : bits .xor .u8 (x.toNat : Int) (y.toNat : Int) = ((x ^^^ y).toNat : Int) := by
  rw [UInt8.toNat_xor]
  exact u8_xor_nat _ _ x.toNat_lt y.toNat_lt
theorem fetch_four (p : Pt) (hl : p.mem.length ≤ 512) (h : p.pc + 4 ≤ p.mem.length) : fetch p = some (decI (p.mem.getD p.pc 0).toNat (p.mem.getD (p.pc + 1) 0).toNat (p.mem.getD (p.pc + 2) 0).toNat (p.mem.getD (p.pc + 3) 0).toNat) := by
  unfold fetch
  rw [if_pos (by rw [there_iff]; omega), cut4 _ _ h]
end Go.Proofs.YtpcmnphohneddaaGreatDoor
