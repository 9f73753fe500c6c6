/- Chapter 25: disks that are armed again and again (plain); Dirty's length. -/
import Derived.Test.YtkgnlobabknkcaaGreatMgCheckBaseA
import Derived.Test.YtkgnlobabknkcaaGreatMgCheckBaseB
import Derived.Test.YtkgnlobabknkcaaGreatMgCheckBaseC
import Derived.Test.YtkgnlobabknkcaaGreatMgCheckBaseD
import Derived.Test.YtkgnlobabknkcaaGreatMgCheckBaseE
import Derived.Test.YtkgnlobabknkcaaGreatMgCheckBaseF
import Derived.Test.YtkgnlobabknkcaaGreatMgCheckBaseG
import Derived.Test.YtkgnlobabknkcaaGreatMgCheckBaseH
import Derived.Test.YtkgnlobabknkcaaGreatMgCheckBaseI
import Derived.Test.YtkgnlobabknkcaaGreatMgCheckBaseJ
import Derived.Test.YtkgnlobabknkcaaGreatMgCheckBaseK
import Derived.Test.YtkgnlobabknkcaaGreatMgCheckBaseL
import Derived.Test.YtkgnlobabknkcaaGreatMgCheckBaseM
import Derived.Test.YtkgnlobabknkcaaGreatMgCheckBaseN
import Derived.Test.YtkgnlobabknkcaaGreatMgCheckBaseO
import Derived.Test.YtkgnlobabknkcaaGreatMgCheckBaseP
import Derived.Test.YtkgnlobabknkcaaGreatMgCheckBaseQ
import Derived.Test.YtkgnlobabknkcaaGreatMgCheckBaseR
import Derived.Test.YtkgnlobabknkcaaGreatMgCheckBaseS
import Derived.Test.YtkgnlobabknkcaaGreatMgCheckBaseShelf
import Derived.Test.YtkgnlobabknkcaaGreatMgCheckBaseT
import Derived.Test.YtkgnlobabknkcaaGreatMgCheckBaseU
namespace Go.Proofs.YtkgnlobabknkcaaGreat
set_option linter.unusedVariables false
set_option linter.unusedSimpArgs false
set_option maxHeartbeats 8000000
open Go.RowKit

/-- a disk at rest that nothing of a stay is kept on -/
structure Calm2 (D : Dk) : Prop where
 r : Rest D
 y : D.stay = []
theorem calm_up {E : Dk} (h1 : E.cache = []) (h2 : E.sec.length = 323) (h3 : E.stay = []) (h4 : E.left = 0) : Calm2 { E with up := true } :=
 ⟨⟨rfl, h1, h2, sz_up h3 h4, by show 0 ≤ E.left; omega⟩, h3⟩
theorem turn_down {D : Dk} {n k : Int} {hash : List UInt8} {s : Sta} (h : Calm2 D) (hs : StBd s) (hm : mayS s = true) (hh : hash.length = 32) (h1 : 1 ≤ n) (h2 : n ≤ 9223372036854775807) (k1 : 1 ≤ k) (k2 : k ≤ 98) :
  (kPutR { D with left := k, stay := [] } n hash s).2 = 60 ∧ (kPutR { D with left := k, stay := [] } n hash s).1.up = false ∧ Calm2 { (kPutR { D with left := k, stay := [] } n hash s).1 with up := true } ∧ (kPutR { D with left := k, stay := [] } n hash s).1.left = 0 := by
 obtain ⟨E, hE⟩ : ∃ E : Dk, ({ D with left := k, stay := [] } : Dk) = E := ⟨_, rfl⟩
 have q1 : E.up = true := by rw [← hE]; exact h.r.up
 have q2 : E.cache = [] := by rw [← hE]; exact h.r.cache
 have q3 : E.sec.length = 323 := by rw [← hE]; exact h.r.len
 have q4 : E.left = k := by rw [← hE]
 have q5 : E.stay = [] := by rw [← hE]
 rw [hE, putR_may h1 hm]
 have hst : (kPut E (plc n) n hash s).1.stay = [] := kPut_stay (by rw [q3]; omega) q5
 rcases kPut_all (hash := hash) q1 q2 (by rw [q3]; omega) (by rw [q4]; omega) hs hm hh h1 h2 with ⟨_, _, e, p⟩ | ⟨a, _⟩
 ·exact ⟨e, p.up, calm_up p.cache (p.len.trans q3) hst p.left, p.left⟩
 ·rw [q4] at a; omega
theorem turn_up {D : Dk} {n k : Int} {hash : List UInt8} {s : Sta} (h : Calm2 D) (hs : StBd s) (hm : mayS s = true) (hh : hash.length = 32) (h1 : 1 ≤ n) (h2 : n ≤ 9223372036854775807) (k1 : 99 ≤ k) (k2 : k ≤ 9223372036854775807) :
  (kPutR { D with left := k, stay := [] } n hash s).2 = 0 ∧ Calm2 (kPutR { D with left := k, stay := [] } n hash s).1 ∧ (kPutR { D with left := k, stay := [] } n hash s).1.left = k - 98 := by
 obtain ⟨E, hE⟩ : ∃ E : Dk, ({ D with left := k, stay := [] } : Dk) = E := ⟨_, rfl⟩
 have q1 : E.up = true := by rw [← hE]; exact h.r.up
 have q2 : E.cache = [] := by rw [← hE]; exact h.r.cache
 have q3 : E.sec.length = 323 := by rw [← hE]; exact h.r.len
 have q4 : E.left = k := by rw [← hE]
 have q5 : E.stay = [] := by rw [← hE]
 rw [hE, putR_may h1 hm]
 have hst : (kPut E (plc n) n hash s).1.stay = [] := kPut_stay (by rw [q3]; omega) q5
 rcases kPut_all (hash := hash) q1 q2 (by rw [q3]; omega) (by rw [q4]; omega) hs hm hh h1 h2 with ⟨_, a, _⟩ | ⟨_, e, p⟩
 ·rw [q4] at a; omega
 ·have hl : (kPut E (plc n) n hash s).1.left = k - 98 := by rw [p.left, q4]; omega
  exact ⟨e, ⟨⟨p.up, p.cache, p.len.trans q3, ⟨by rw [hst]; exact Nat.zero_le _, by rw [hl]; omega⟩, by rw [hl]; omega⟩, hst⟩, hl⟩
/-- what a write of sector 0 leaves in the cache -/
theorem dirty_one {D : Dk} (h : Calm2 D) : (D.write 0 (List.replicate 64 0)).1.cache.length = if D.left = 1 then 0 else 1 := by
 have hu := h.r.up
 have hc := h.r.cache
 have hl := h.r.len
 clear h
 obtain ⟨u, sc, ca, lf, sy⟩ := D
 simp only at hu hc hl
 subst hu hc
 unfold Dk.write
 simp only
 rw [if_neg (by simp), if_neg (by omega), if_neg (by simp)]
 unfold Dk.operate
 simp only
 split
 ·rfl
 ·rfl
set_option maxRecDepth 100000 in
theorem Dirty_len (pd ps pm : Nat) (D : Dk) (w : World) (h : IsD w pd ps pm D) :
  Calls Tryz.prog 28 #[.pointer (some ⟨pd, 0, none⟩)] w fun e w' => ∃ A c, e = .returned (.slice A D.cache.length c) ∧ Chg Non w w' := by
 have hok := h.1
 have hcl := cache_len hok
 have hdl := dirty_length D.cache
 obtain ⟨A, c, _, _, h2, _⟩ := h.cells
 have HN := Lib.hid (dnone_ok pd ps pm D w h)
 obtain ⟨_, A', c', _, _, hm, _⟩ := h
 have HS := Lib.hid (sorted_keys pm D.cache w hm (fun p hp => by have := (hok.keys p hp).1; have := hok.most; omega) hcl)
 rw [hdl] at HS
 go_enter Tryz.func28, Tryz.ntmps28
 go_wp2_with fail
 refine HN.out.mono ?_
 rintro e w' ⟨rfl, rfl⟩
 go_wp2_with fail
 refine (keys_in _ _).mono ?_
 rintro e w' ⟨rfl, rfl⟩
 go_wp2_with fail
 refine HS.out.mono ?_
 rintro e w' ⟨v, rfl, hrow, hg⟩
 go_wp2
 go_ret
 rcases hrow.2 with ⟨rfl, h0⟩ | ⟨g, cap, cur, rfl, _⟩
 ·exact ⟨none, 0, by rw [h0]; rfl, hg⟩
 ·exact ⟨_, _, rfl, hg⟩
/-- another disk leaves it alone -/
theorem isD_apart {w w' : World} {pd ps pm qd qs qm : Nat} {D : Dk} (h : IsD w pd ps pm D) (hy : D.stay = []) (hg : Chg (DS qd qs qm) w w') (hne : ∀ k, DS pd ps pm k → ¬ DS qd qs qm k) : IsD w' pd ps pm D :=
 h.keep hg (fun k _ e => ⟨fun e2 => hne k (.inl e2) e, fun e2 => hne k (.inr (.inl e2)) e, fun e2 => hne k (.inr (.inr e2)) e⟩) (fun _ _ _ _ _ _ hn => absurd hy hn)
end Go.Proofs.YtkgnlobabknkcaaGreat
