/- Package vm: Step whole, Run; citadellaw20.one. (Written by wip/merge_vm.py.) -/
import Derived.Test.YtpcmnphohneddaaGreatDoorVq1
import Derived.Test.YtpcmnphohneddaaGreatDoorVq2
import Derived.Test.YtpcmnphohneddaaGreatDoorVq3
import Derived.Test.YtpcmnphohneddaaGreatDoorVq4
import Derived.Test.YtpcmnphohneddaaGreatDoorVq5
namespace Go.Proofs.YtpcmnphohneddaaGreatDoor
open Go.RowKit
set_option linter.unusedVariables false

theorem does_1 (p : Pt) (a b c n : Nat) : does ⟨1, a, b, c, (n : Nat)⟩ p = some p := by
  unfold does
  simp
theorem does_2 (p : Pt) (a b c n : Nat) : does ⟨2, a, b, c, (n : Nat)⟩ p = some (p.set a n) := by
  unfold does
  simp
theorem does_3 (p : Pt) (a b c n : Nat) : does ⟨3, a, b, c, (n : Nat)⟩ p = some (p.set a ((p.g a * 65536 % 4294967296) ||| n)) := by
  unfold does
  simp
theorem does_4 (p : Pt) (a b c n : Nat) : does ⟨4, a, b, c, (n : Nat)⟩ p = some (p.set a (mk2 4 (p.g b) (p.g c))) := by
  unfold does
  simp
theorem does_5 (p : Pt) (a b c n : Nat) : does ⟨5, a, b, c, (n : Nat)⟩ p = some (p.set a (mk2 5 (p.g b) (p.g c))) := by
  unfold does
  simp
theorem does_6 (p : Pt) (a b c n : Nat) : does ⟨6, a, b, c, (n : Nat)⟩ p = some (p.set a (mk2 6 (p.g b) (p.g c))) := by
  unfold does
  simp
theorem does_7 (p : Pt) (a b c n : Nat) : does ⟨7, a, b, c, (n : Nat)⟩ p = some (p.set a (mk2 7 (p.g b) (p.g c))) := by
  unfold does
  simp
theorem does_8 (p : Pt) (a b c n : Nat) : does ⟨8, a, b, c, (n : Nat)⟩ p = some (p.set a (mk2 8 (p.g b) (p.g c))) := by
  unfold does
  simp
theorem does_9 (p : Pt) (a b c n : Nat) : does ⟨9, a, b, c, (n : Nat)⟩ p = some (p.set a (mk2 9 (p.g b) (p.g c))) := by
  unfold does
  simp
theorem does_10 (p : Pt) (a b c n : Nat) : does ⟨10, a, b, c, (n : Nat)⟩ p = some (p.set a (mk2 10 (p.g b) (p.g c))) := by
  unfold does
  simp
theorem does_11 (p : Pt) (a b c n : Nat) : does ⟨11, a, b, c, (n : Nat)⟩ p = some (p.set a (mk2 11 (p.g b) (p.g c))) := by
  unfold does
  simp
theorem does_12 (p : Pt) (a b c n : Nat) : does ⟨12, a, b, c, (n : Nat)⟩ p = some (p.set a (mk2 12 (p.g b) (p.g c))) := by
  unfold does
  simp
theorem does_13 (p : Pt) (a b c n : Nat) (h : there p.mem (p.g b + n) 1 = true) : does ⟨13, a, b, c, (n : Nat)⟩ p = some (p.set a (num32 (cut p.mem (p.g b + n) 1))) := by
  unfold does
  simp [h]
theorem does_13n (p : Pt) (a b c n : Nat) (h : there p.mem (p.g b + n) 1 = false) : does ⟨13, a, b, c, (n : Nat)⟩ p = none := by
  unfold does
  simp [h]
theorem does_14 (p : Pt) (a b c n : Nat) (h : there p.mem (p.g b + n) 1 = true) : does ⟨14, a, b, c, (n : Nat)⟩ p = some ({ p with mem := put p.mem (p.g b + n) [UInt8.ofNat (p.g a)] }) := by
  unfold does
  simp [h]
theorem does_14n (p : Pt) (a b c n : Nat) (h : there p.mem (p.g b + n) 1 = false) : does ⟨14, a, b, c, (n : Nat)⟩ p = none := by
  unfold does
  simp [h]
theorem does_15 (p : Pt) (a b c n : Nat) (h : there p.mem (p.g b + n) 4 = true) : does ⟨15, a, b, c, (n : Nat)⟩ p = some (p.set a (num32 (cut p.mem (p.g b + n) 4))) := by
  unfold does
  simp [h]
theorem does_15n (p : Pt) (a b c n : Nat) (h : there p.mem (p.g b + n) 4 = false) : does ⟨15, a, b, c, (n : Nat)⟩ p = none := by
  unfold does
  simp [h]
theorem does_16 (p : Pt) (a b c n : Nat) (h : there p.mem (p.g b + n) 4 = true) : does ⟨16, a, b, c, (n : Nat)⟩ p = some ({ p with mem := put p.mem (p.g b + n) (word32 (p.g a)) }) := by
  unfold does
  simp [h]
theorem does_16n (p : Pt) (a b c n : Nat) (h : there p.mem (p.g b + n) 4 = false) : does ⟨16, a, b, c, (n : Nat)⟩ p = none := by
  unfold does
  simp [h]
theorem does_18 (p : Pt) (a b c n : Nat) : does ⟨18, a, b, c, (n : Nat)⟩ p = some p := by
  unfold does
  simp
theorem does_19 (p : Pt) (a b c n : Nat) : does ⟨19, a, b, c, (n : Nat)⟩ p = some p := by
  unfold does
  simp
theorem does_20 (p : Pt) (a b c n : Nat) : does ⟨20, a, b, c, (n : Nat)⟩ p = some p := by
  unfold does
  simp
theorem does_21 (p : Pt) (a b c n : Nat) : does ⟨21, a, b, c, (n : Nat)⟩ p = some (p.set a (p.g b)) := by
  unfold does
  simp
theorem stepV_stop {p : Pt} (h : p.st ≠ 0) : stepV p = (p, -1, 2) := by unfold stepV; rw [if_pos h]
theorem stepV_nof {p : Pt} (h : p.st = 0) (hf : fetch p = none) : stepV p = ({ p with st := 3 }, -1, 0) := by
  unfold stepV
  rw [if_neg (by omega), hf]
theorem stepV_bad {p : Pt} {x : Ins} (h : p.st = 0) (hf : fetch p = some x) (hm : mayB x = false) : stepV p = ({ p with st := 2 }, -1, 0) := by
  unfold stepV
  rw [if_neg (by omega), hf]
  simp only [hm, Bool.false_eq_true, if_false]
theorem stepV_jump {p : Pt} {x : Ins} (h : p.st = 0) (hf : fetch p = some x) (hm : mayB x = true) (hj : jumpsB x p = true) : stepV p = ({ p with pc := x.n.toNat }, -1, 0) := by
  unfold stepV
  rw [if_neg (by omega), hf]
  simp only [hm, hj, if_true]
theorem stepV_does {p q : Pt} {x : Ins} (h : p.st = 0) (hf : fetch p = some x) (hm : mayB x = true) (hj : jumpsB x p = false) (hd : does x p = some q) : stepV p = ({ q with pc := (p.pc + 4) % 4294967296 }, if x.op = 20 then x.n else -1, 0) := by
  unfold stepV
  rw [if_neg (by omega), hf]
  simp only [hm, hj, if_true, Bool.false_eq_true, if_false, hd]
theorem stepV_fail {p : Pt} {x : Ins} (h : p.st = 0) (hf : fetch p = some x) (hm : mayB x = true) (hj : jumpsB x p = false) (hd : does x p = none) : stepV p = ({ p with st := 3 }, -1, 0) := by
  unfold stepV
  rw [if_neg (by omega), hf]
  simp only [hm, hj, if_true, Bool.false_eq_true, if_false, hd]
theorem Step_ok (p : Pt) (A : Option Addr) (c : Nat) (w : World) (hb : p.Bd) (hr : Rd w A p.mem) (hl : p.mem.length ≤ 140737488355328) :
    Calls Tryz.prog 9 #[.agg (partC p (.slice A p.mem.length c))] w (RetStep w (stepV p).1 (stepV p).2.1 (stepV p).2.2) := by
  by_cases hs : p.st = 0
  · cases ht : there p.mem p.pc 4 with
    | false =>
      rw [stepV_nof hs (by unfold fetch; rw [ht]; rfl)]
      exact step_nofetch p A c w hb hr hl hs ht
    | true =>
      have hlen := cut_len (there_yes ht).2
      match hcut : cut p.mem p.pc 4, hlen with
      | [f0, f1, f2, f3], _ =>
        have hfe : fetch p = some (decI f0.toNat f1.toNat f2.toNat f3.toNat) := by unfold fetch; rw [ht, hcut]; rfl
        cases hm : mayB (decI f0.toNat f1.toNat f2.toNat f3.toNat) with
        | false =>
          rw [stepV_bad hs hfe hm]
          exact step_badop p A c w hb hr hl hs ht f0 f1 f2 f3 hcut hm
        | true =>
          obtain ⟨⟨op, a, b2, cc, ni⟩, hd⟩ : ∃ x, decI f0.toNat f1.toNat f2.toNat f3.toNat = x := ⟨_, rfl⟩
          rw [hd] at hm hfe
          have hi := (mayB_iff _).1 hm
          have hop1 : 1 ≤ op := hi.1.1
          have hop2 : op ≤ 21 := hi.1.2
          obtain ⟨n, rfl⟩ : ∃ n : Nat, ni = n := ⟨ni.toNat, by have := hi.2.2.2.2.1; simp only at this; omega⟩
          cases hj : jumpsB ⟨op, a, b2, cc, (n : Nat)⟩ p with
          | true =>
            rw [stepV_jump hs hfe hm hj]
            exact step_jump p A c w hb hr hl hs ht f0 f1 f2 f3 hcut op a b2 cc n hd hm hj
          | false =>
            have hk : op = 1 ∨ op = 2 ∨ op = 3 ∨ op = 4 ∨ op = 5 ∨ op = 6 ∨ op = 7 ∨ op = 8 ∨ op = 9 ∨ op = 10 ∨ op = 11 ∨ op = 12 ∨ op = 13 ∨ op = 14 ∨ op = 15 ∨ op = 16 ∨ op = 17 ∨ op = 18 ∨ op = 19 ∨ op = 20 ∨ op = 21 := by omega
            rcases hk with h | h | h | h | h | h | h | h | h | h | h | h | h | h | h | h | h | h | h | h | h
            · rw [stepV_does hs hfe hm hj (by rw [h]; exact does_1 p a b2 cc n), if_neg (by show ¬ op = 20; omega)]
              exact step_el1 p A c w hb hr hl hs ht f0 f1 f2 f3 hcut op a b2 cc n hd hm hj h
            · rw [stepV_does hs hfe hm hj (by rw [h]; exact does_2 p a b2 cc n), if_neg (by show ¬ op = 20; omega)]
              exact step_do2 p A c w hb hr hl hs ht f0 f1 f2 f3 hcut op a b2 cc n hd hm hj h
            · rw [stepV_does hs hfe hm hj (by rw [h]; exact does_3 p a b2 cc n), if_neg (by show ¬ op = 20; omega)]
              exact step_do3 p A c w hb hr hl hs ht f0 f1 f2 f3 hcut op a b2 cc n hd hm hj h
            · rw [stepV_does hs hfe hm hj (by rw [h]; exact does_4 p a b2 cc n), if_neg (by show ¬ op = 20; omega)]
              exact step_mk4 p A c w hb hr hl hs ht f0 f1 f2 f3 hcut op a b2 cc n hd hm hj h
            · rw [stepV_does hs hfe hm hj (by rw [h]; exact does_5 p a b2 cc n), if_neg (by show ¬ op = 20; omega)]
              exact step_mk5 p A c w hb hr hl hs ht f0 f1 f2 f3 hcut op a b2 cc n hd hm hj h
            · rw [stepV_does hs hfe hm hj (by rw [h]; exact does_6 p a b2 cc n), if_neg (by show ¬ op = 20; omega)]
              exact step_mk6 p A c w hb hr hl hs ht f0 f1 f2 f3 hcut op a b2 cc n hd hm hj h
            · rw [stepV_does hs hfe hm hj (by rw [h]; exact does_7 p a b2 cc n), if_neg (by show ¬ op = 20; omega)]
              exact step_mk7 p A c w hb hr hl hs ht f0 f1 f2 f3 hcut op a b2 cc n hd hm hj h
            · rw [stepV_does hs hfe hm hj (by rw [h]; exact does_8 p a b2 cc n), if_neg (by show ¬ op = 20; omega)]
              exact step_mk8 p A c w hb hr hl hs ht f0 f1 f2 f3 hcut op a b2 cc n hd hm hj h
            · rw [stepV_does hs hfe hm hj (by rw [h]; exact does_9 p a b2 cc n), if_neg (by show ¬ op = 20; omega)]
              exact step_mk9 p A c w hb hr hl hs ht f0 f1 f2 f3 hcut op a b2 cc n hd hm hj h
            · rw [stepV_does hs hfe hm hj (by rw [h]; exact does_10 p a b2 cc n), if_neg (by show ¬ op = 20; omega)]
              exact step_mk10 p A c w hb hr hl hs ht f0 f1 f2 f3 hcut op a b2 cc n hd hm hj h
            · rw [stepV_does hs hfe hm hj (by rw [h]; exact does_11 p a b2 cc n), if_neg (by show ¬ op = 20; omega)]
              exact step_mk11 p A c w hb hr hl hs ht f0 f1 f2 f3 hcut op a b2 cc n hd hm hj h
            · rw [stepV_does hs hfe hm hj (by rw [h]; exact does_12 p a b2 cc n), if_neg (by show ¬ op = 20; omega)]
              exact step_mk12 p A c w hb hr hl hs ht f0 f1 f2 f3 hcut op a b2 cc n hd hm hj h
            · cases hth : there p.mem (p.g b2 + n) 1 with
              | true =>
                rw [stepV_does hs hfe hm hj (by rw [h]; exact does_13 p a b2 cc n hth), if_neg (by show ¬ op = 20; omega)]
                exact step_do13 p A c w hb hr hl hs ht f0 f1 f2 f3 hcut op a b2 cc n hd hm hj h hth
              | false =>
                rw [stepV_fail hs hfe hm hj (by rw [h]; exact does_13n p a b2 cc n hth)]
                exact step_do13n p A c w hb hr hl hs ht f0 f1 f2 f3 hcut op a b2 cc n hd hm hj h hth
            · cases hth : there p.mem (p.g b2 + n) 1 with
              | true =>
                rw [stepV_does hs hfe hm hj (by rw [h]; exact does_14 p a b2 cc n hth), if_neg (by show ¬ op = 20; omega)]
                exact step_do14 p A c w hb hr hl hs ht f0 f1 f2 f3 hcut op a b2 cc n hd hm hj h hth
              | false =>
                rw [stepV_fail hs hfe hm hj (by rw [h]; exact does_14n p a b2 cc n hth)]
                exact step_do14n p A c w hb hr hl hs ht f0 f1 f2 f3 hcut op a b2 cc n hd hm hj h hth
            · cases hth : there p.mem (p.g b2 + n) 4 with
              | true =>
                rw [stepV_does hs hfe hm hj (by rw [h]; exact does_15 p a b2 cc n hth), if_neg (by show ¬ op = 20; omega)]
                exact step_do15 p A c w hb hr hl hs ht f0 f1 f2 f3 hcut op a b2 cc n hd hm hj h hth
              | false =>
                rw [stepV_fail hs hfe hm hj (by rw [h]; exact does_15n p a b2 cc n hth)]
                exact step_do15n p A c w hb hr hl hs ht f0 f1 f2 f3 hcut op a b2 cc n hd hm hj h hth
            · cases hth : there p.mem (p.g b2 + n) 4 with
              | true =>
                rw [stepV_does hs hfe hm hj (by rw [h]; exact does_16 p a b2 cc n hth), if_neg (by show ¬ op = 20; omega)]
                exact step_do16 p A c w hb hr hl hs ht f0 f1 f2 f3 hcut op a b2 cc n hd hm hj h hth
              | false =>
                rw [stepV_fail hs hfe hm hj (by rw [h]; exact does_16n p a b2 cc n hth)]
                exact step_do16n p A c w hb hr hl hs ht f0 f1 f2 f3 hcut op a b2 cc n hd hm hj h hth
            · exfalso; rw [h] at hj; simp [jumpsB] at hj
            · rw [stepV_does hs hfe hm hj (by rw [h]; exact does_18 p a b2 cc n), if_neg (by show ¬ op = 20; omega)]
              exact step_el18 p A c w hb hr hl hs ht f0 f1 f2 f3 hcut op a b2 cc n hd hm hj h
            · rw [stepV_does hs hfe hm hj (by rw [h]; exact does_19 p a b2 cc n), if_neg (by show ¬ op = 20; omega)]
              exact step_el19 p A c w hb hr hl hs ht f0 f1 f2 f3 hcut op a b2 cc n hd hm hj h
            · rw [stepV_does hs hfe hm hj (by rw [h]; exact does_20 p a b2 cc n), if_pos h]
              exact step_el20 p A c w hb hr hl hs ht f0 f1 f2 f3 hcut op a b2 cc n hd hm hj h
            · rw [stepV_does hs hfe hm hj (by rw [h]; exact does_21 p a b2 cc n), if_neg (by show ¬ op = 20; omega)]
              exact step_do21 p A c w hb hr hl hs ht f0 f1 f2 f3 hcut op a b2 cc n hd hm hj h
  · rw [stepV_stop hs]
    exact step_stop p A c w hb hr hl hs

theorem mk2_lt (k b c : Nat) (hb : b < 4294967296) (hc : c < 4294967296) : mk2 k b c < 4294967296 := by
  unfold mk2
  have h32 : (2 : Nat) ^ 32 = 4294967296 := by decide
  split
  · exact Nat.mod_lt _ (by omega)
  split
  · exact Nat.mod_lt _ (by omega)
  split
  · exact Nat.mod_lt _ (by omega)
  split
  · have := Nat.and_le_left (n := b) (m := c); omega
  split
  · rw [← h32] at hb hc ⊢; exact Nat.or_lt_two_pow hb hc
  split
  · rw [← h32] at hb hc ⊢; exact Nat.xor_lt_two_pow hb hc
  split
  · exact Nat.mod_lt _ (by omega)
  split
  · exact Nat.lt_of_le_of_lt (Nat.div_le_self _ _) hb
  split
  · split <;> omega
  · omega
theorem Pt.Bd.set {p : Pt} (h : p.Bd) (a v : Nat) (hv : v < 4294967296) : (p.set a v).Bd := by
  obtain ⟨h1, h2, h3, h4, h5, h6⟩ := h
  refine ⟨by simp [Pt.set, h1], ?_, h3, h4, h5, h6⟩
  intro i
  simp only [Pt.set]
  rw [List.getD_eq_getElem?_getD, List.getElem?_set]
  split
  · split
    · exact hv
    · show (0 : Nat) < 4294967296; omega
  · rw [← List.getD_eq_getElem?_getD]
    exact h2 i
theorem Pt.Bd.pc {p : Pt} (h : p.Bd) (v : Nat) (hv : v < 4294967296) : Pt.Bd { p with pc := v } := ⟨h.r8, h.rb, hv, h.stb, h.idb, h.sizeb⟩
theorem Pt.Bd.st {p : Pt} (h : p.Bd) (v : Nat) (hv : v < 256) : Pt.Bd { p with st := v } := ⟨h.r8, h.rb, h.pcb, hv, h.idb, h.sizeb⟩
theorem Pt.Bd.mem {p : Pt} (h : p.Bd) (l : List UInt8) : Pt.Bd { p with mem := l } := ⟨h.r8, h.rb, h.pcb, h.stb, h.idb, h.sizeb⟩
theorem cut_le (l : List UInt8) (a n : Nat) : (cut l a n).length ≤ n := by
  unfold cut
  rw [List.length_take]
  omega
theorem does_bd {x : Ins} {p q : Pt} (hp : p.Bd) (hn : x.n.toNat < 65536) (h : does x p = some q) : q.Bd := by
  have hg : ∀ a, p.g a < 4294967296 := hp.rb
  unfold does at h
  simp only at h
  split at h
  · injection h with h; subst h; exact hp.set _ _ (by omega)
  split at h
  · injection h with h; subst h
    have h1 : p.g x.a * 65536 % 4294967296 < 4294967296 := Nat.mod_lt _ (by omega)
    have h32 : (2 : Nat) ^ 32 = 4294967296 := by decide
    refine hp.set _ _ ?_
    rw [← h32]
    exact Nat.or_lt_two_pow (by omega) (by omega)
  split at h
  · injection h with h; subst h; exact hp.set _ _ (hg _)
  split at h
  · injection h with h; subst h; exact hp.set _ _ (mk2_lt _ _ _ (hg _) (hg _))
  split at h
  · split at h
    · injection h with h; subst h; exact hp.set _ _ (num32_lt _ (Nat.le_trans (cut_le _ _ _) (by omega)))
    · cases h
  split at h
  · split at h
    · injection h with h; subst h; exact hp.set _ _ (num32_lt _ (cut_le _ _ _))
    · cases h
  split at h
  · split at h
    · injection h with h; subst h; exact hp.mem _
    · cases h
  split at h
  · split at h
    · injection h with h; subst h; exact hp.mem _
    · cases h
  · injection h with h; subst h; exact hp
theorem step_bd {p : Pt} (hp : p.Bd) : (stepV p).1.Bd ∧ ((stepV p).2.1 < 0 → (stepV p).2.1 = -1) ∧ ((stepV p).2.1 ≤ 65535) := by
  by_cases hs : p.st = 0
  · cases hf : fetch p with
    | none => rw [stepV_nof hs hf]; exact ⟨hp.st 3 (by omega), fun _ => rfl, by show (-1 : Int) ≤ 65535; omega⟩
    | some x =>
      cases hm : mayB x with
      | false => rw [stepV_bad hs hf hm]; exact ⟨hp.st 2 (by omega), fun _ => rfl, by show (-1 : Int) ≤ 65535; omega⟩
      | true =>
        have hi := (mayB_iff x).1 hm
        have hn := opAt_n x.op
        have hn0 := hi.2.2.2.2.1
        have hn1 := hi.2.2.2.2.2
        cases hj : jumpsB x p with
        | true => rw [stepV_jump hs hf hm hj]; exact ⟨hp.pc _ (by omega), fun _ => rfl, by show (-1 : Int) ≤ 65535; omega⟩
        | false =>
          cases hd : does x p with
          | none => rw [stepV_fail hs hf hm hj hd]; exact ⟨hp.st 3 (by omega), fun _ => rfl, by show (-1 : Int) ≤ 65535; omega⟩
          | some q =>
            rw [stepV_does hs hf hm hj hd]
            refine ⟨(does_bd hp (by omega) hd).pc _ (Nat.mod_lt _ (by omega)), ?_, ?_⟩
            · simp only
              split
              · intro h; omega
              · intro _; rfl
            · simp only
              split <;> omega
  · rw [stepV_stop hs]; exact ⟨hp, fun _ => rfl, by show (-1 : Int) ≤ 65535; omega⟩
theorem step_mem (p : Pt) : (stepV p).1.mem.length = p.mem.length := by
  rcases step_shape p with ⟨h, _⟩ | ⟨⟨v, h⟩, _⟩ | ⟨⟨a, v, h⟩, _⟩ | ⟨⟨a, b, _, hl, h⟩, _⟩ | ⟨h, _⟩
  · rw [h]
  · rw [h]
  · rw [h]; rfl
  · rw [h]; exact put_len hl
  · rw [h]
/-- a run so far -/
def RunRel (N : Nat) (p : Pt) (s : Nat) (q : Pt) (call : Int) : Prop :=
  s ≤ N ∧ (call = -1 ∧ runV N p = ((runV (N - s) q).1, (runV (N - s) q).2.1, s + (runV (N - s) q).2.2) ∨ 0 ≤ call ∧ runV N p = (q, call, s))
theorem RunRel.zero (N : Nat) (p : Pt) : RunRel N p 0 p (-1) := ⟨Nat.zero_le _, .inl ⟨rfl, by rw [Nat.sub_zero, Nat.zero_add]⟩⟩
theorem RunRel.step {N : Nat} {p q : Pt} {s : Nat} {call : Int} (hb : q.Bd) (h : RunRel N p s q call) (hs : s < N) (hc : call < 0) (hq : q.st = 0) : RunRel N p (s + 1) (stepV q).1 (stepV q).2.1 := by
  obtain ⟨h1, h2⟩ := h
  refine ⟨hs, ?_⟩
  rcases h2 with ⟨rfl, h2⟩ | ⟨h2, _⟩
  · obtain ⟨m, hm⟩ : ∃ m, N - s = m + 1 := ⟨N - s - 1, by omega⟩
    have hm2 : N - (s + 1) = m := by omega
    rw [hm] at h2
    rw [hm2]
    by_cases hn : (stepV q).2.1 < 0
    · left
      refine ⟨(step_bd hb).2.1 hn, ?_⟩
      rw [h2, runV, if_pos hq, if_pos hn]
      simp only [Prod.mk.injEq, true_and]
      omega
    · right
      refine ⟨by omega, ?_⟩
      rw [h2, runV, if_pos hq, if_neg hn]
  · omega
theorem RunRel.done {N : Nat} {p q : Pt} {s : Nat} {call : Int} (h : RunRel N p s q call) (he : s = N ∨ q.st ≠ 0 ∨ 0 ≤ call) : runV N p = (q, call, s) := by
  obtain ⟨h1, h2⟩ := h
  rcases h2 with ⟨rfl, h2⟩ | ⟨_, h2⟩
  · rw [h2]
    rcases he with rfl | he | he
    · rw [Nat.sub_self]
      rfl
    · cases hm : N - s with
      | zero => rfl
      | succ m => rw [runV, if_neg he]; rfl
    · omega
  · exact h2

/-- what Run gives -/
def RetRun (w : World) (q : Pt) (call : Int) (steps : Nat) (e : Ending) (w' : World) : Prop :=
  ∃ A' c', e = .returned (.tuple #[.agg (partC q (.slice A' q.mem.length c')), .int .i64 call, .int .i64 (steps : Nat)]) ∧ q.mem.length ≤ c' ∧ c' ≤ maxLen ∧ Own w.heap.size w' A' q.mem ∧ Chg Non w w'
/-- a run's state: the partition in the result's block -/
structure RuS (w W : World) (q : Pt) (A : Option Addr) (c : Nat) : Prop where
  pb : PartB W (w.heap.size + 1) q (.slice A q.mem.length c)
  own : Own (w.heap.size + 2) W A q.mem
  chg : Chg Non w W
  h1 : q.mem.length ≤ c
  h2 : c ≤ maxLen
theorem min2 (a b : Int) (W : World) : (Builtin.min_ #[3, 3] 3 #[.int .i64 a, .int .i64 b]).run Tryz.prog W = .ok (.int .i64 (min a b)) W := by
  rw [run_min_int2]
  congr 2
  split <;> omega
set_option maxRecDepth 100000 in
set_option maxHeartbeats 8000000 in
theorem Run_ok (p : Pt) (A : Option Addr) (c : Nat) (n : Int) (w : World) (hb : p.Bd) (hr : Rd w A p.mem) (hl : p.mem.length ≤ 140737488355328) (hn0 : -9223372036854775808 ≤ n) (hn1 : n ≤ 9223372036854775807) (N : Nat) (hN : min n 100000 = N ∨ n < 0 ∧ N = 0) :
    Calls Tryz.prog 18 #[.agg (partC p (.slice A p.mem.length c)), .int .i64 n] w (RetRun w (runV N p).1 (runV N p).2.1 (runV N p).2.2) := by
  have h8 := hb.r8
  have HBd := Lib.hid hb
  obtain ⟨M, hM⟩ : ∃ M, min n 100000 = M := ⟨_, rfl⟩
  have HMn := Lib.hid hM.symm
  have hMn : M = n ∧ n ≤ 100000 ∨ M = 100000 ∧ 100000 < n := by omega
  rw [hM] at hN
  have HN := Lib.hid hN
  clear hM
  obtain ⟨C, hC⟩ : ∃ C, partC p (.slice A p.mem.length c) = C := ⟨_, rfl⟩
  have hsz : C.size = 14 := by rw [← hC]; exact partC_size h8 _
  have hcp := fun W hrW => Copy_ok p A p.mem c W h8 hrW hl
  rw [hC] at hcp ⊢
  have HCp := Lib.hid hcp
  have HR := Lib.hid hr
  clear hcp hC hr hb hN
  go_enter Tryz.func18, Tryz.ntmps18
  go_wp2_with (first
    | (refine sel (some 7) (.load _ (.tmp 2)) ?_; refine Vm_stop ?_))
  refine HoleV.mk ?_
  refine wpList_load_row rfl 26 (.tmp 2) rfl w.heap.size rfl 26 C (0, 0) _ (al_2_0 w _ _) Tryz.underlying26 rfl (by rw [hsz]; exact info_part) ?_
  go_wp2_with fail
  refine (HCp.out _ (HR.out.non (((Chg.refl Non w).alloc _).alloc _))).mono ?_
  rintro e w1 ⟨A2, c2, rfl, q1, q2, q3, q4⟩
  have hby := blockN q4 (al_2_1 w (.cells C 26) (.cells zeroPart 26))
  have HO := Lib.hid (q3.mono (show w.heap.size + 2 ≤ _ by simp))
  have HG := Lib.hid ((((Chg.refl Non w).alloc _).alloc _).then_non q4)
  clear q3 q4
  go_wp2_with (first
    | (refine sel none (.store _ (.tmp 4) (.tmp 8)) ?_; refine Vm_stop ?_))
  refine HoleV.mk ?_
  refine wpList_store_rowA rfl 26 (.tmp 4) (.tmp 8) rfl (w.heap.size + 1) (partC p (.slice A2 p.mem.length c2)) rfl rfl 26 zeroPart hby (by rw [partC_size h8]; exact info_part) (by rw [partC_size h8]; rfl) (partC_one _ _ rfl) ?_
  intro w2 hg2 hb2
  have hst0 : RuS w w2 p A2 c2 := ⟨⟨hb2, h8⟩, HO.out.keep hg2 (fun b o e1 e2 e3 e4 => by omega), HG.out.then_new hg2 (fun x e => by omega), q1, q2⟩
  have HS0 := Lib.hid hst0
  clear hg2 hb2 hst0 hby
  go_wp2_with fail
  go_loopw [5, 6] (fun k s wr => ∃ (st : Nat) (q : Pt) (call : Int) (A' : Option Addr) (c' : Nat), s = .int .i64 (st : Nat) ∧ k = .int .i64 call ∧ RuS w wr q A' c' ∧ q.Bd ∧ q.mem.length = p.mem.length ∧ RunRel N p st q call ∧ call ≤ 65535) (fun _ s _ => N - (intOf s).toNat)
  case atStart => exact ⟨0, p, -1, A2, c2, rfl, rfl, HS0.out, HBd.out, rfl, RunRel.zero _ _, by omega⟩
  case round =>
    rename World => wi
    obtain ⟨st, q, call, A', c', rfl, rfl, hst, hqb, hql, hrr, hc65⟩ := hrel
    have HS := Lib.hid hst
    have HQb := Lib.hid hqb
    have HRR := Lib.hid hrr
    have HQl := Lib.hid hql
    have c12 := hst.pb.cells.2.2.2.2.1
    have hq8 := hqb.r8
    have hstN := hrr.1
    have hN9 : N ≤ 100000 := by rcases HN.out with h | h <;> omega
    clear hst hqb hrr hql
    have hmin : ∀ W : World, (Builtin.min_ #[3, 3] 3 #[.int .i64 n, .int .i64 100000]).run Tryz.prog W = .ok (.int .i64 M) W := fun W => by rw [HMn.out]; exact min2 _ _ W
    by_cases h1 : st < N
    · have hb1 : decide ((st : Int) < M) = true := by rw [decide_eq_true_eq]; rcases HN.out with h | h <;> omega
      by_cases h2 : q.st = 0
      · have c12' : wi.cell? ⟨w.heap.size + 1, 12, none⟩ = some (.int .u8 0) := by rw [h2] at c12; exact c12
        by_cases h3 : call < 0
        · have hb3 : decide (call < 0) = true := by simpa using h3
          have HQ0 := Lib.hid h2
          have H3 := Lib.hid h3
          have H1 := Lib.hid h1
          clear c12 h2
          go_wp2_with (first
            | (refine sel (some 23) (.load _ (.tmp 4)) ?_; refine Vm_stop ?_))
          refine HoleV.mk ?_
          refine wpList_load_row rfl 26 (.tmp 4) rfl (w.heap.size + 1) rfl 26 _ (0, 0) _ HS.out.pb.out Tryz.underlying26 rfl (by rw [partC_size hq8]; exact info_part) ?_
          go_wp2_with fail
          refine (Step_ok q A' c' wi HQb.out HS.out.own.rd (by have := HQl.out; omega)).mono ?_
          have hnext := HRR.out.step HQb.out h1 h3 HQ0.out
          have hsb := step_bd HQb.out
          have hsm := step_mem q
          obtain ⟨⟨q2, k2, e2⟩, hsv⟩ : ∃ r, stepV q = r := ⟨_, rfl⟩
          rw [hsv] at hnext hsb hsm ⊢
          simp only at hnext hsb hsm ⊢
          rintro e w5 ⟨A5, c5, rfl, m1, m2, m3, m4⟩
          have HNext := Lib.hid hnext
          have HSb := Lib.hid hsb
          have HSm := Lib.hid hsm
          have hq28 := hsb.1.r8
          have HO5 := Lib.hid (m3.mono (show w.heap.size + 2 ≤ _ by have := HS.out.pb.lt; omega))
          have HB5 := Lib.hid (blockN m4 HS.out.pb.out)
          have HG5 := Lib.hid (HS.out.chg.then_non m4)
          clear m3 m4 hnext hsb hsm hsv
          go_wp2_with (first
            | (refine sel none (.store _ (.tmp 4) (.tmp 25)) ?_; refine Vm_stop ?_))
          refine HoleV.mk ?_
          refine wpList_store_rowA rfl 26 (.tmp 4) (.tmp 25) rfl (w.heap.size + 1) (partC q2 (.slice A5 q2.mem.length c5)) rfl rfl 26 _ HB5.out (by rw [partC_size hq28]; exact info_part) (by rw [partC_size hq28, partC_size hq8]) (partC_one _ _ rfl) ?_
          intro w6 hg6 hb6
          have hst6 : RuS w w6 q2 A5 c5 := ⟨⟨hb6, hq28⟩, HO5.out.keep hg6 (fun b o e1 e2 e3 e4 => by omega), HG5.out.then_new hg6 (fun x e => by omega), m1, m2⟩
          have HS6 := Lib.hid hst6
          clear hg6 hb6 hst6
          go_wp2_with fail
          go_roundw
          case rel => exact ⟨st + 1, q2, k2, A5, c5, by go_num, rfl, HS6.out, HSb.out.1, by rw [HSm.out]; exact HQl.out, HNext.out, HSb.out.2.2⟩
          case measure => simp [intOf]; omega
        · have hb3 : decide (call < 0) = false := by simpa using h3
          have HEnd : Hid (st = N ∨ q.st ≠ 0 ∨ 0 ≤ call) := Lib.hid (.inr (.inr (by omega)))
          clear c12 h2
          go_wp2_with (first
            | (refine sel (some 30) (.load _ (.tmp 4)) ?_; refine Vm_stop ?_))
          refine HoleV.mk ?_
          refine wpList_load_row rfl 26 (.tmp 4) rfl (w.heap.size + 1) rfl 26 _ (0, 0) _ HS.out.pb.out Tryz.underlying26 rfl (by rw [partC_size hq8]; exact info_part) ?_
          go_wp2_with (first
            | (refine sel none (.store _ (.tmp 4) (.tmp 30)) ?_; refine Vm_stop ?_))
          refine HoleV.mk ?_
          refine wpList_store_rowA rfl 26 (.tmp 4) (.tmp 30) rfl (w.heap.size + 1) _ rfl rfl 26 _ HS.out.pb.out (by rw [partC_size hq8]; exact info_part) (by rw [partC_size hq8]) (partC_one _ _ rfl) ?_
          intro WR hgR hbR
          have HBR := Lib.hid hbR
          have HGR := Lib.hid hgR
          clear hbR hgR
          go_wp2_with fail
          refine bodyPost_ret (results_ctt Tryz.results18 _ _ (w.heap.size + 1) 26 _ (0, 0) _ (.int .i64 call) (.int .i64 (st : Nat)) rfl rfl rfl HBR.out Tryz.underlying26 rfl (by rw [partC_size hq8]; exact info_part)) rfl ?_
          rw [HRR.out.done HEnd.out]
          exact ⟨_, _, rfl, HS.out.h1, HS.out.h2, (HS.out.own.keep HGR.out (fun b o e1 e2 e3 e4 => by omega)).mono (by omega), HS.out.chg.then_new HGR.out (fun x e => by omega)⟩
      · have hb2 : ((q.st : Int) == 0) = false := by rw [beq_eq_false_iff_ne]; omega
        have HEnd : Hid (st = N ∨ q.st ≠ 0 ∨ 0 ≤ call) := Lib.hid (.inr (.inl h2))
        go_wp2_with (first
          | (refine sel (some 30) (.load _ (.tmp 4)) ?_; refine Vm_stop ?_))
        refine HoleV.mk ?_
        refine wpList_load_row rfl 26 (.tmp 4) rfl (w.heap.size + 1) rfl 26 _ (0, 0) _ HS.out.pb.out Tryz.underlying26 rfl (by rw [partC_size hq8]; exact info_part) ?_
        go_wp2_with (first
          | (refine sel none (.store _ (.tmp 4) (.tmp 30)) ?_; refine Vm_stop ?_))
        refine HoleV.mk ?_
        refine wpList_store_rowA rfl 26 (.tmp 4) (.tmp 30) rfl (w.heap.size + 1) _ rfl rfl 26 _ HS.out.pb.out (by rw [partC_size hq8]; exact info_part) (by rw [partC_size hq8]) (partC_one _ _ rfl) ?_
        intro WR hgR hbR
        have HBR := Lib.hid hbR
        have HGR := Lib.hid hgR
        clear hbR hgR
        go_wp2_with fail
        refine bodyPost_ret (results_ctt Tryz.results18 _ _ (w.heap.size + 1) 26 _ (0, 0) _ (.int .i64 call) (.int .i64 (st : Nat)) rfl rfl rfl HBR.out Tryz.underlying26 rfl (by rw [partC_size hq8]; exact info_part)) rfl ?_
        rw [HRR.out.done HEnd.out]
        exact ⟨_, _, rfl, HS.out.h1, HS.out.h2, (HS.out.own.keep HGR.out (fun b o e1 e2 e3 e4 => by omega)).mono (by omega), HS.out.chg.then_new HGR.out (fun x e => by omega)⟩
    · have hb1 : decide ((st : Int) < M) = false := by rw [decide_eq_false_iff_not]; rcases HN.out with h | h <;> omega
      have HEnd : Hid (st = N ∨ q.st ≠ 0 ∨ 0 ≤ call) := Lib.hid (.inl (by omega))
      go_wp2_with (first
        | (refine sel (some 30) (.load _ (.tmp 4)) ?_; refine Vm_stop ?_))
      refine HoleV.mk ?_
      refine wpList_load_row rfl 26 (.tmp 4) rfl (w.heap.size + 1) rfl 26 _ (0, 0) _ HS.out.pb.out Tryz.underlying26 rfl (by rw [partC_size hq8]; exact info_part) ?_
      go_wp2_with (first
        | (refine sel none (.store _ (.tmp 4) (.tmp 30)) ?_; refine Vm_stop ?_))
      refine HoleV.mk ?_
      refine wpList_store_rowA rfl 26 (.tmp 4) (.tmp 30) rfl (w.heap.size + 1) _ rfl rfl 26 _ HS.out.pb.out (by rw [partC_size hq8]; exact info_part) (by rw [partC_size hq8]) (partC_one _ _ rfl) ?_
      intro WR hgR hbR
      have HBR := Lib.hid hbR
      have HGR := Lib.hid hgR
      clear hbR hgR
      go_wp2_with fail
      refine bodyPost_ret (results_ctt Tryz.results18 _ _ (w.heap.size + 1) 26 _ (0, 0) _ (.int .i64 call) (.int .i64 (st : Nat)) rfl rfl rfl HBR.out Tryz.underlying26 rfl (by rw [partC_size hq8]; exact info_part)) rfl ?_
      rw [HRR.out.done HEnd.out]
      exact ⟨_, _, rfl, HS.out.h1, HS.out.h2, (HS.out.own.keep HGR.out (fun b o e1 e2 e3 e4 => by omega)).mono (by omega), HS.out.chg.then_new HGR.out (fun x e => by omega)⟩

theorem zeroCells_u8 (k : Nat) : Builtin.zeroCells (Value.int .u8 0).cells k = (List.replicate k (bv 0)).toArray := by
  apply Array.ext'
  simp only [Builtin.zeroCells, Value.cells, Array.toList_map, Array.toList_range, List.size_toArray, List.length_singleton, Nat.mul_one]
  apply List.ext_getElem?
  intro i
  rw [List.getElem?_map, List.getElem?_replicate]
  split
  · rename_i h
    rw [List.getElem?_range h]
    simp only [Option.map_some, Nat.mod_one]
    rfl
  · rename_i h
    rw [List.getElem?_eq_none (by simp; omega)]
    rfl
set_option maxRecDepth 100000 in
theorem run_appZr (w : World) (ty : TypeId) (B : Nat) (v : Value) (l : List UInt8) (hown : OwnR B w v l) (k : Nat) (h0 : 0 < k) (hk : k ≤ 1000) (hl : l.length ≤ 1000) (hB : B ≤ w.heap.size) :
    ∃ v' w', (Builtin.append_ #[24, 3] ty #[v, .int .i64 k]).run Tryz.prog w = .ok v' w' ∧ OwnR B w' v' (l ++ List.replicate k 0) ∧ Chg (fun g => v.ownBlock = some g) w w' := by
  obtain ⟨i0, hi0, hz0, hs0, hb0⟩ := info_u8z
  have hlen : ((l.map bv) ++ List.replicate k (bv 0)) = (l ++ List.replicate k 0).map bv := by simp
  have hw : IntKind.i64.wrap (k : Int) = k := by rw [IntKind.wrap_i64]; omega
  have h48 : ¬ (281474976710656 < (k : Int)) := by omega
  have hneg : ¬ ((k : Int) < 0) := by omega
  rcases hown.2 with ⟨rfl, hn⟩ | ⟨g, cap, cur, rfl, hbg, hg, hnc, hcm, hcs, htake⟩
  · have hl0 : l = [] := List.eq_nil_of_length_eq_zero hn
    subst hl0
    have hr := Lib.run_append_grow_zeros (P := Tryz.prog) w 24 3 ty 5 i0 (.int .u8 0) .i64 .i64 Tryz.underlying24 Tryz.underlying3 hi0 hz0 none 0 0 [] (run_firstCells_none w.drew i0.size 0 0 0) k h0 (by omega) (by omega) (by omega) (by rw [hb0]; omega) (by rw [hb0]; unfold Builtin.nextslicecap; split <;> omega)
    rw [Nat.zero_add] at hr
    refine ⟨_, _, hr, ⟨by simp, .inr ⟨w.heap.size, _, _, by simp, hB, heap_alloc_new _ _, ?_, grownCap_le_maxLen w k 0 5 (by unfold maxLen; omega), ?_, ?_⟩⟩, ((Chg.refl _ w).drew).alloc _⟩
    · simpa using grownCap_ge w k 0 5
    · have hge := grownCap_ge w k 0 5
      simp [size_zeroCells, Value.cells]
      omega
    · rw [zeroCells_u8]
      simp
  · by_cases hroom : l.length + k ≤ cap
    · have hst := run_storeCells_at Tryz.prog g (l.length * 1) 5 (List.replicate k (bv 0)) 0 cur w hg (by simp [hcs]; omega) (by intro u hu; rw [List.mem_replicate] at hu; rw [hu.2]; rfl)
      simp only [Nat.add_zero] at hst
      rw [Nat.mul_one] at hst
      obtain ⟨NC, hNC⟩ : ∃ NC, (cur.toList.take l.length ++ List.replicate k (bv 0) ++ cur.toList.drop (l.length + k)) = NC := ⟨_, rfl⟩
      have hst2 : (storeCells ⟨g, l.length, none⟩ (List.replicate k (bv 0))).run Tryz.prog w = .ok () (w.setRow g NC.toArray) := by
        rw [← hNC]
        simpa [storeCells] using hst
      refine ⟨.slice (some ⟨g, 0, none⟩) (l.length + k) cap, w.setRow g NC.toArray, ?_, ⟨?_, .inr ⟨g, cap, NC.toArray, ?_, hbg, setRow_heap w g cur NC.toArray 5 _ hg, ?_, hcm, ?_, ?_⟩⟩, (Chg.refl (fun g1 => (Value.slice (some ⟨g, 0, none⟩) l.length cap).ownBlock = some g1) w).setRow (.inl rfl) _⟩
      · have h := zeroCells_u8 k
        simp [Builtin.append_, run_underlying Tryz.underlying24, run_underlying Tryz.underlying3, sizeOf, typeInfo, zeroValue, hi0, hz0, hs0, hb0, asInt, asIntOf, hw, hneg, h48, hroom, Addr.add_lit, h, hst2, Nat.ne_of_gt h0]
      · simp
      · simp
      · simpa using hroom
      · rw [← hNC]
        simp [hcs]
        omega
      · rw [← hNC]
        have e1 : cur.toList.take l.length = l.map bv := by simpa using htake
        rw [e1, hlen]
        have e2 : (l ++ List.replicate k (0 : UInt8)).length * 1 = ((l ++ List.replicate k (0 : UInt8)).map bv).length := by simp
        rw [e2]
        exact List.take_left
    · have holds : ∀ j u, (l.map bv)[j]? = some u → w.cell? ((⟨g, 0, none⟩ : Addr).add j) = some u := hown.cells (g := g) rfl
      have hold : (Builtin.firstCells i0.size l.length (.slice (some ⟨g, 0, none⟩) l.length cap)).run Tryz.prog w.drew = .ok (l.map bv).toArray w.drew := run_firstCells_some w.drew i0.size l.length ⟨g, 0, none⟩ l.length cap (l.map bv) (by simp [hs0]) holds
      have hr := Lib.run_append_grow_zeros (P := Tryz.prog) w 24 3 ty 5 i0 (.int .u8 0) .i64 .i64 Tryz.underlying24 Tryz.underlying3 hi0 hz0 (some ⟨g, 0, none⟩) l.length cap (l.map bv) hold k h0 (by omega) (by omega) (by omega) (by rw [hb0]; omega) (growslice_fits (by omega) (by rw [hb0]; omega))
      refine ⟨_, _, hr, ⟨by simp, .inr ⟨w.heap.size, _, _, by simp, hB, heap_alloc_new _ _, ?_, grownCap_le_maxLen w (l.length + k) cap 5 (by unfold maxLen; omega), ?_, ?_⟩⟩, ((Chg.refl _ w).drew).alloc _⟩
      · simpa using grownCap_ge w (l.length + k) cap 5
      · have hge := grownCap_ge w (l.length + k) cap 5
        simp [size_zeroCells, Value.cells]
        omega
      · rw [zeroCells_u8]
        have e2 : (l ++ List.replicate k (0 : UInt8)).length * 1 = ((l ++ List.replicate k (0 : UInt8)).map bv).length := by simp
        rw [e2, ← hlen]
        simp only [Array.toList_append, List.append_assoc]
        rw [← List.append_assoc]
        exact List.take_left
theorem wpList_appZr {ops : Array Oper} {rest : List Oper} {o : Oper} {a : Act} {w : World} {Q : Exit → Act → World → Prop} (hgd : o.guard = none) (s x : Operand)
    (ho : o.op = .call { callee := .builtin .append, args := #[s, x], argTypes := #[24, 3] })
    (B : Nat) (v : Value) (l : List UInt8) (hs : a.eval s = v) (hown : OwnR B w v l) (k : Nat) (hx : a.eval x = .int .i64 k) (h0 : 0 < k) (hk : k ≤ 1000) (hl : l.length ≤ 1000) (hB : B ≤ w.heap.size)
    (h : ∀ v2 w2, OwnR B w2 v2 (l ++ List.replicate k 0) → Chg (fun k => v.ownBlock = some k) w w2 → wpList Tryz.prog ops Q rest (a.put o.dst v2) w2) : wpList Tryz.prog ops Q (o :: rest) a w := by
  obtain ⟨v', w', h1, h2, h3⟩ := run_appZr w o.type B v l hown k h0 hk hl hB
  refine wpList_plain hgd fun K hK => ?_
  unfold Oper.wp execOp
  simp only [ho, resolve, invoke, builtin, Sem.run_bind, Sem.run_pure, Result.andThen_ok, List.map_toArray, List.map_cons, List.map_nil, hs, hx, h1]
  exact hK _ _ (h v' w' h2 h3)
/-- a partition of 16 bytes with one instruction -/
def onePt (bs : List UInt8) : Pt := ⟨1, 16, false, [0, 0, 0, 0, 0, 0, 0, 0], 0, 0, bs ++ List.replicate 12 0⟩
set_option maxRecDepth 100000 in
set_option maxHeartbeats 4000000 in
theorem one_ok (s bs : List UInt8) (w : World) (hE : Env w) (hs : s.length < 1000) (hc : codeC [s] = some bs) (hbl : bs.length = 4) :
    Calls Tryz.prog 31 #[.string ⟨s.toArray⟩] w fun e w' => ∃ A c, e = .returned (.agg (partC (onePt bs) (.slice A 16 c))) ∧ 16 ≤ c ∧ c ≤ maxLen ∧ Own w.heap.size w' A (bs ++ List.replicate 12 0) ∧ Chg Non w w' := by
  have HE := Lib.hid hE
  have HC := Lib.hid hc
  have HBl := Lib.hid hbl
  clear hE hc hbl
  go_enter Tryz.func31, Tryz.ntmps31
  go_wp2_with fail
  have hg0 : Chg Non w ((w.alloc (.cells zeroPart 26)).alloc (.cells #[.string ⟨s.toArray⟩] 9)) := ((Chg.refl Non w).alloc _).alloc _
  have HG0 := Lib.hid hg0
  have hrs : RdS ((w.alloc (.cells zeroPart 26)).alloc (.cells #[.string ⟨s.toArray⟩] 9)) (some ⟨w.heap.size + 1, 0, none⟩) [s] := by
    intro i x hx
    have hi : i = 0 := by have := (List.getElem?_eq_some_iff.1 hx).1; simp at this; omega
    subst hi
    simp at hx
    subst hx
    exact ⟨_, _, rfl, cell_of_one (al_2_1 w _ _)⟩
  have HRs := Lib.hid hrs
  clear hg0 hrs
  refine (Code_ok (some ⟨w.heap.size + 1, 0, none⟩) 1 [s] _ (HE.out.non HG0.out) HRs.out (by simp) (by intro l hl; simp at hl; subst hl; omega)).mono ?_
  rintro e w1 ⟨hg1, hret⟩
  rw [HC.out] at hret
  obtain ⟨A1, c1, rfl, hr1, q1, q2⟩ := hret
  have HR1 := Lib.hid hr1
  have HG1 := Lib.hid (HG0.out.then_non hg1)
  have HZ := Lib.hid (blockN hg1 (al_2_0 w (.cells zeroPart 26) (.cells #[.string ⟨s.toArray⟩] 9)))
  have hsz1 := hg1.size
  clear hr1 hg1
  go_wp2_with (refine sel (some 13) (.call _) ?_; refine Vm_stop ?_)
  refine HoleV.mk ?_
  refine wpList_appB rfl (.tmp 11) (.tmp 12) rfl w1.heap.size (.slice (some ⟨w1.heap.size, 0, none⟩) 0 0) [] rfl (own_emptyR w1) A1 c1 bs rfl (HR1.out.non ((Chg.refl Non _).alloc _)) (by simp) (by have := HBl.out; omega) (by simp) (by have := HBl.out; simp; omega) ?_
  intro v2 w2 ho2 hg2 hat2
  have HO2 := Lib.hid ho2
  have HG2 := Lib.hid (((Chg.refl Non w1).alloc _).then_new hg2 (fun x hx => (own_emptyR w1).ge hx))
  rw [List.nil_append] at HO2
  clear ho2 hg2 hat2
  go_wp2_with (refine sel (some 14) (.call _) ?_; refine Vm_stop ?_)
  refine HoleV.mk ?_
  refine wpList_appZr rfl (.tmp 13) (.const (.int .i64 12)) rfl w1.heap.size v2 bs rfl HO2.out 12 rfl (by omega) (by omega) (by have := HBl.out; omega) HG2.out.size ?_
  intro v3 w3 ho3 hg3
  have HG3 := Lib.hid (HG2.out.then_new hg3 (fun x hx => HO2.out.ge hx))
  obtain ⟨A3, c3, rfl, k1, k2, k3⟩ := OwnR.own ho3
  have hl16 : (bs ++ List.replicate 12 (0 : UInt8)).length = 16 := by have := HBl.out; simp; omega
  rw [hl16] at k1 ⊢
  have HO3 := Lib.hid k3
  have HZ3 := Lib.hid (blockN HG3.out HZ.out)
  clear ho3 hg3 k3 hl16
  go_wp2_with (first
    | (refine sel none (.store _ (.tmp 2) (.tmp 15)) ?_; refine Vm_stop ?_))
  refine HoleV.mk ?_
  refine wpList_store_rowA rfl 26 (.tmp 2) (.tmp 15) rfl w.heap.size (partC (onePt bs) (.slice A3 16 c3)) rfl rfl 26 zeroPart HZ3.out (by kernel_rfl) rfl (partC_one _ _ rfl) ?_
  intro W hgW hbW
  have HBW := Lib.hid hbW
  have hs12 : w.heap.size < w1.heap.size := by simp at hsz1; omega
  have HGW := Lib.hid ((HG1.out.then_non HG3.out).then_new hgW (fun x e => by omega))
  have HOW := Lib.hid (HO3.out.keep hgW (fun b o e1 e2 e3 e4 => by omega))
  clear hbW hgW
  go_wp2_with fail
  exact bodyPost_ret (results_cell_row Tryz.results31 _ _ w.heap.size 26 _ (0, 0) _ rfl HBW.out Tryz.underlying26 rfl (by kernel_rfl)) rfl ⟨A3, c3, rfl, k1, k2, HOW.out.mono (by omega), HGW.out⟩
end Go.Proofs.YtpcmnphohneddaaGreatDoor
