/- CheckPlays, part 11 of 27: contracts of the functions that it reaches, and the laws that they need, merged and shortened (from my texts XDiskP, XDiskQ, XDiskO, XRkStep, XRef06c). -/
import Derived.Test.YtkgnlobabknkcaaGreatMgCheckPlaysA
import Derived.Test.YtkgnlobabknkcaaGreatMgCheckPlaysH
import Derived.Test.YtkgnlobabknkcaaGreatMgCheckPlaysJ
namespace Go.Proofs.YtkgnlobabknkcaaGreat
set_option linter.unusedVariables false
set_option linter.unusedSimpArgs false
set_option maxHeartbeats 8000000
set_option maxRecDepth 100000
section
open Go.RowKit
theorem IsD.setSec {w W : World} {pd ps pm : Nat} {D : Dk} (h : IsD w pd ps pm D) (sec : List (List UInt8)) (hl : sec.length = D.sec.length) (hs : ∀ s ∈ sec, s.length = 64)
  (hb : W.heap[ps]? = some (.cells (sec.flatten.map bv).toArray 113 (0, 0))) (hg : Chg (fun x => x = ps) w W) : IsD W pd ps pm { D with sec := sec } := by
 have hne := h.ne
 obtain ⟨hok, A, c, h1, h2, h3, h4, h5, h6, h7⟩ := h
 refine ⟨⟨hs, fun p hp => by show p.1 < sec.length ∧ _; rw [hl]; exact hok.keys p hp, hok.nodup, by show sec.length ≤ 1024; rw [hl]; exact hok.most, hok.left0⟩, A, c, ?_, hb, h3.keep hg (Ne.symm hne.2.2), h4.keep hg h5, h5, h6, h7⟩
 rw [hg.block pd (Array.getElem?_eq_some_iff.1 h1).1 hne.1, h1]
 simp only [dCells, hl]
theorem IsD.clearCache {w W : World} {pd ps pm : Nat} {D : Dk} (h : IsD w pd ps pm D) (hm : MapIs W pm []) (hg : Chg (fun x => x = pm) w W) : IsD W pd ps pm { D with cache := [] } := by
 have hne := h.ne
 obtain ⟨hok, A, c, h1, h2, h3, h4, h5, h6, h7⟩ := h
 refine ⟨⟨hok.secs, fun p hp => (by cases hp), List.nodup_nil, hok.most, hok.left0⟩, A, c, ?_, ?_, hm, h4.keep hg (fun b o e hne' => (stay_ne h1 h3 h4 b o e hne').2), h5, h6, h7⟩
 ·exact (hg.block pd (Array.getElem?_eq_some_iff.1 h1).1 hne.2.1).trans h1
 ·exact (hg.block ps (Array.getElem?_eq_some_iff.1 h2).1 hne.2.2).trans h2
theorem all_any (p : Value) (n : Int) (w : World) :
  Calls Tryz.prog 82 #[p, .int .i64 n] w fun e w' => e = .returned (.bool true) ∧ w = w' := by
 go_enter Tryz.func82, Tryz.ntmps82
 go_wp2
 go_ret
 exact ⟨rfl, rfl⟩
theorem spill_all (pd ps pm : Nat) (D : Dk) (w : World) (h : IsD w pd ps pm D) :
  Calls Tryz.prog 81 #[.pointer (some ⟨pd, 0, none⟩), .func (.func 82) #[.pointer (some ⟨pd, 0, none⟩)] #[]] w fun e w' => e = .returned (.tuple #[]) ∧ IsD w' pd ps pm (D.spill fun _ => true) ∧ Chg (DS pd ps pm) w w' := by
 have hok := h.1
 have hlt := h.lt
 have hne := h.ne
 have HD := Lh h
 have hcl := cache_len hok
 have hdl := dirty_length D.cache
 -- Dirty
 have hdirty : Calls Tryz.prog 28 #[.pointer (some ⟨pd, 0, none⟩)] w fun e w' => ∃ v, e = .returned v ∧ w'.ownsRow w.heap.size 3 1 v (dirty D.cache).length ((dirty D.cache).map fun k : Nat => Value.int .i64 (k : Int)) ∧ Chg Non w w' := by
  obtain ⟨A, c, _, _, h2, _⟩ := h.cells
  have HN := Lh (dnone_ok pd ps pm D w h)
  obtain ⟨_, A', c', _, _, hm, _⟩ := h
  have HS := Lh (sorted_keys pm D.cache w hm (fun p hp => by have := (hok.keys p hp).1; have := hok.most; omega) hcl)
  go_enter Tryz.func28, Tryz.ntmps28
  go_wp2_with fail
  refine HN.out.mono ?_
  rintro e w' ⟨rfl, rfl⟩
  go_wp2_with fail
  refine (keys_in _ _).mono ?_
  rintro e w' ⟨rfl, rfl⟩
  go_wp2_with fail
  refine HS.out.mono ?_
  rintro e w' ⟨v, rfl, hrow, hg⟩
  go_wp2
  go_ret
  exact ⟨v, rfl, hrow, hg⟩
 have HDi := Lh hdirty
 clear hdirty h
 obtain ⟨ks, hks⟩ : ∃ ks, dirty D.cache = ks := ⟨_, rfl⟩
 rw [hks] at HDi hdl
 have HK := Lh hks
 clear hks
 obtain ⟨st, hst⟩ : ∃ st : Nat → Bool, (fun _ => true) = st := ⟨_, rfl⟩
 rw [hst]
 have HSt := Lh hst
 clear hst
 have hnl : ks.length ≤ 1024 := by omega
 have HDl := Lh hdl
 clear hdl
 go_enter Tryz.func81, Tryz.ntmps81
 go_wp2_with fail
 refine HDi.out.mono ?_
 rintro e w1 ⟨v, rfl, hrow, hg1⟩
 obtain ⟨A, cv, rfl, hkeys⟩ : ∃ A cv, v = .slice A ks.length cv ∧ ∀ n (hn : n < ks.length), ∃ g, A = some ⟨g, 0, none⟩ ∧ w.heap.size ≤ g ∧ w1.cell? ⟨g, n, none⟩ = some (.int .i64 (ks[n] : Int)) := by
  rcases hrow.2 with ⟨rfl, h0⟩ | ⟨g, cap, cur, rfl, hg, _⟩
  ·exact ⟨none, 0, by rw [h0], fun n hn => absurd hn (by omega)⟩
  ·refine ⟨_, cap, rfl, fun n hn => ⟨g, rfl, hg, ?_⟩⟩
   have := hrow.cells (g := g) rfl n (.int .i64 (ks[n] : Int)) (by rw [List.getElem?_map, List.getElem?_eq_getElem hn]; rfl)
   rw [add_plain, Nat.zero_add] at this
   exact this
 have HKeys := Lh hkeys
 clear hkeys hrow
 go_wp2_with fail
 go_loopw [9] (fun i wr => ∃ n : Nat, n ≤ ks.length ∧ i = .int .i64 n ∧ IsD wr pd ps pm { D with sec := D.spillTo st n } ∧ Chg (DS pd ps pm) w1 wr) (fun i _ => ks.length - (intOf i).toNat)
 case atStart => exact ⟨0, Nat.zero_le _, rfl, HD.out.non hg1, Chg.refl _ _⟩
 case round =>
  obtain ⟨n, hn, rfl, hDn, hgn⟩ := hrel
  have HDn := Lh hDn
  clear hDn
  by_cases hlt2 : n < ks.length
  ·obtain ⟨g, rfl, hgw, hcell⟩ := HKeys.out n hlt2
   have hcell' := hgn.cell_some hcell (by rintro (e | e | e) <;> simp at e <;> omega)
   clear hcell
   have hk : (dirty D.cache)[n]? = some ks[n] := by rw [HK.out]; exact List.getElem?_eq_getElem hlt2
   obtain ⟨hkl, l, hll, hl64⟩ := dirty_look hok hk
   have hspill : D.spillTo st (n + 1) = if st n then (D.spillTo st n).set ks[n] l else D.spillTo st n := by
    show (match (dirty D.cache)[n]? with | some k => if st n then (D.spillTo st n).set k ((look D.cache k).getD []) else D.spillTo st n | none => D.spillTo st n) = _
    rw [hk]
    simp only [hll, Option.getD_some]
   obtain ⟨k, hkk⟩ : ∃ k, ks[n] = k := ⟨_, rfl⟩
   rw [hkk] at hcell' hk hkl hll hspill
   clear hkk
   have HSp := Lh hspill
   have HL := Lh hll
   have HL64 := Lh hl64
   clear hspill hk hll hl64
   obtain ⟨wo, rfl⟩ : ∃ wo : World, wo = wr := ⟨_, rfl⟩
   have hstn : st n = true := by rw [← HSt.out]
   go_wp2_with fail
   refine (all_any _ _ _).mono ?_
   rintro e w' ⟨rfl, rfl⟩
   go_wp2_with fail
   refine wp_region_still_tail 12 (by kernel_rfl) (by kernel_rfl) ?_
   simp only [List.take_succ_cons, List.take_zero, List.drop_succ_cons, List.drop_zero]
   change wpStill _ _ wo.drew (fun a' => wpList _ _ _ _ a' wo.drew) _ _
   have hd1 : IsD wo.drew pd ps pm { D with sec := D.spillTo st n } := HDn.out.non (Chg.refl _ _).drew
   have hgd : Chg (DS pd ps pm) w1 wo.drew := hgn.drew
   generalize wo.drew = w2 at hd1 hgd ⊢
   obtain ⟨A2, c2, _, k1, k2, _⟩ := hd1.cells
   have hlk := run_lookup hd1.2.choose_spec.choose_spec.2.2.1 (fun p hp => by have := (hok.keys p hp).1; have := hok.most; omega) k (by have := hok.most; omega) w2 rfl false
   simp only [HL.out] at hlk
   have hsl : (D.spillTo st n).length = D.sec.length := (spillTo_ok hok st n).1
   simp only [hsl] at k1
   have H2 := Lh hd1
   have HSL := Lh hsl
   clear hd1 hsl
   repeat still_step
   refine wpStill_nil ?_
   have hok2 := spillTo_ok hok st n
   refine wpList_store_sec rfl (.tmp 28) (.tmp 27) rfl ps k (D.spillTo st n) 113 l rfl rfl H2.out.2.choose_spec.choose_spec.2.1 hok2.2 (by rw [hok2.1]; exact hkl) HL64.out ?_
   intro W hbW hgW
   have hDW : IsD W pd ps pm { D with sec := D.spillTo st (n + 1) } := by
    have e : D.spillTo st (n + 1) = (D.spillTo st n).set k l := by rw [HSp.out, if_pos hstn]
    have ok2 := spillTo_ok hok st (n + 1)
    exact H2.out.setSec (D.spillTo st (n + 1)) (by rw [ok2.1, hok2.1]) ok2.2 (by rw [e]; exact hbW) hgW
   have HDW := Lh hDW
   have hgW2 : Chg (DS pd ps pm) w1 W := hgd.trans_same (hgW.mono (fun x e => .inr (.inl e)))
   clear hbW hgW hDW
   go_wp2
   go_roundw
   case rel => exact ⟨n + 1, by omega, by go_num, HDW.out, hgW2⟩
   case measure => simp [intOf]; omega
  ·obtain rfl : n = ks.length := by omega
   obtain ⟨A2, c2, _, _, k2, _⟩ := HDn.out.cells
   obtain ⟨W, hrun, hmW, hgW⟩ := run_clear HDn.out.2.choose_spec.choose_spec.2.2.1
   have hDW : IsD W pd ps pm (D.spill st) := by
    have hsp : D.spill st = { D with sec := D.spillTo st ks.length, cache := [] } := by unfold Dk.spill; rw [HDl.out]
    rw [hsp]
    exact HDn.out.clearCache hmW hgW
   have HDW := Lh hDW
   have hgW2 : Chg (DS pd ps pm) w W := (hg1.non_then hgn).trans_same (hgW.mono (fun x e => .inr (.inr e)))
   clear hmW hgW hDW
   go_wp2
   go_end0
   exact ⟨rfl, HDW.out, hgW2⟩
end
section
open Go.RowKit
theorem fall1_any (bx : Nat) (A : Option Addr) (l : List UInt8) (c n : Nat) (w : World) (hb : w.cell? ⟨bx, 0, none⟩ = some (.slice A l.length c)) (hr : Rd w A l) (hn : n ≤ 1024) (hl : l.length ≤ 140737488351232) :
  Calls Tryz.prog 125 #[.int .i64 (n : Int), .pointer (some ⟨bx, 0, none⟩)] w fun e w' => e = .returned (.bool (Dk.bit l n)) ∧ w = w' := by
 by_cases h : n / 8 < l.length
 ·obtain ⟨b, o, rfl, hbl, hc⟩ := hr.at_ (by omega)
  have hcell := hc (n / 8) h
  have hgd : l.getD (n / 8) 0 = l[n / 8] := by simp [List.getD, List.getElem?_eq_getElem h]
  have hbit : Dk.bit l n = ((l[n / 8]'h).toNat / 2 ^ (n % 8) % 2 == 1) := by
   unfold Dk.bit
   rw [decide_eq_true h, hgd]
   rfl
  rw [hbit]
  clear hc hgd hbit hr
  have hx := (l[n / 8]'h).toNat_lt
  obtain ⟨x, hxx⟩ : ∃ x, (l[n / 8]'h).toNat = x := ⟨_, rfl⟩
  rw [hxx] at hcell hx ⊢
  clear hxx
  go_enter Tryz.func125, Tryz.ntmps125
  go_wp2
  go_ret
  refine ⟨?_, rfl⟩
  have e1 : ((x : Int) / 2 ^ (n % 8)) = ((x / 2 ^ (n % 8) : Nat) : Int) := by rw [Int.natCast_ediv, Int.natCast_pow]; rfl
  have e2 : x / 2 ^ (n % 8) < 256 := Nat.lt_of_le_of_lt (Nat.div_le_self _ _) hx
  have e3 := u8_and_nat (x / 2 ^ (n % 8)) 1 e2 (by omega)
  rw [nat_mask1] at e3
  have e4 : bits BinOp.and IntKind.u8 ((x : Int) / 2 ^ (n % 8)) 1 = ((x / 2 ^ (n % 8) % 2 : Nat) : Int) := by rw [e1]; exact e3
  have e5 : (bits BinOp.and IntKind.u8 ((x : Int) / 2 ^ (n % 8)) 1 == 1) = (x / 2 ^ (n % 8) % 2 == 1) := by
   rw [e4]
   by_cases hq : x / 2 ^ (n % 8) % 2 = 1
   ·rw [hq]; rfl
   ·rw [beq_eq_false_iff_ne.2 hq, beq_eq_false_iff_ne.2 (by omega)]
  rw [← e5]
  rfl
 ·have hbit : Dk.bit l n = false := by
   unfold Dk.bit
   rw [decide_eq_false h]
   rfl
  rw [hbit]
  have hd : decide ((n : Int) / 8 < l.length) = false := by simp; omega
  go_enter Tryz.func125, Tryz.ntmps125
  go_wp2
  go_ret
  exact ⟨rfl, rfl⟩
theorem spill_fall (pd ps pm bx : Nat) (D : Dk) (B : Option Addr) (m : List UInt8) (cm : Nat) (w : World) (h : IsD w pd ps pm D) (hbx : w.cell? ⟨bx, 0, none⟩ = some (.slice B m.length cm)) (hBm : Rd w B m)
  (hbn : ¬ DS pd ps pm bx) (hBn : ∀ b o, B = some ⟨b, o, none⟩ → m ≠ [] → ¬ DS pd ps pm b) (hml : m.length ≤ 140737488351232) :
  Calls Tryz.prog 81 #[.pointer (some ⟨pd, 0, none⟩), .func (.func 125) #[] #[.pointer (some ⟨bx, 0, none⟩)]] w fun e w' => e = .returned (.tuple #[]) ∧ IsD w' pd ps pm (D.spill (Dk.bit m)) ∧ Chg (DS pd ps pm) w w' := by
 have HBx := Lh hbx
 have HBm := Lh hBm
 clear hbx hBm
 have hok := h.1
 have hlt := h.lt
 have hne := h.ne
 have HD := Lh h
 have hcl := cache_len hok
 have hdl := dirty_length D.cache
 -- Dirty
 have hdirty : Calls Tryz.prog 28 #[.pointer (some ⟨pd, 0, none⟩)] w fun e w' => ∃ v, e = .returned v ∧ w'.ownsRow w.heap.size 3 1 v (dirty D.cache).length ((dirty D.cache).map fun k : Nat => Value.int .i64 (k : Int)) ∧ Chg Non w w' := by
  obtain ⟨A, c, _, _, h2, _⟩ := h.cells
  have HN := Lh (dnone_ok pd ps pm D w h)
  obtain ⟨_, A', c', _, _, hm, _⟩ := h
  have HS := Lh (sorted_keys pm D.cache w hm (fun p hp => by have := (hok.keys p hp).1; have := hok.most; omega) hcl)
  go_enter Tryz.func28, Tryz.ntmps28
  go_wp2_with fail
  refine HN.out.mono ?_
  rintro e w' ⟨rfl, rfl⟩
  go_wp2_with fail
  refine (keys_in _ _).mono ?_
  rintro e w' ⟨rfl, rfl⟩
  go_wp2_with fail
  refine HS.out.mono ?_
  rintro e w' ⟨v, rfl, hrow, hg⟩
  go_wp2
  go_ret
  exact ⟨v, rfl, hrow, hg⟩
 have HDi := Lh hdirty
 clear hdirty h
 obtain ⟨ks, hks⟩ : ∃ ks, dirty D.cache = ks := ⟨_, rfl⟩
 rw [hks] at HDi hdl
 have HK := Lh hks
 clear hks
 obtain ⟨st, hst⟩ : ∃ st : Nat → Bool, Dk.bit m = st := ⟨_, rfl⟩
 rw [hst]
 have HSt := Lh hst
 clear hst
 have hnl : ks.length ≤ 1024 := by omega
 have HDl := Lh hdl
 clear hdl
 go_enter Tryz.func81, Tryz.ntmps81
 go_wp2_with fail
 refine HDi.out.mono ?_
 rintro e w1 ⟨v, rfl, hrow, hg1⟩
 obtain ⟨A, cv, rfl, hkeys⟩ : ∃ A cv, v = .slice A ks.length cv ∧ ∀ n (hn : n < ks.length), ∃ g, A = some ⟨g, 0, none⟩ ∧ w.heap.size ≤ g ∧ w1.cell? ⟨g, n, none⟩ = some (.int .i64 (ks[n] : Int)) := by
  rcases hrow.2 with ⟨rfl, h0⟩ | ⟨g, cap, cur, rfl, hg, _⟩
  ·exact ⟨none, 0, by rw [h0], fun n hn => absurd hn (by omega)⟩
  ·refine ⟨_, cap, rfl, fun n hn => ⟨g, rfl, hg, ?_⟩⟩
   have := hrow.cells (g := g) rfl n (.int .i64 (ks[n] : Int)) (by rw [List.getElem?_map, List.getElem?_eq_getElem hn]; rfl)
   rw [add_plain, Nat.zero_add] at this
   exact this
 have HKeys := Lh hkeys
 clear hkeys hrow
 go_wp2_with fail
 go_loopw [9] (fun i wr => ∃ n : Nat, n ≤ ks.length ∧ i = .int .i64 n ∧ IsD wr pd ps pm { D with sec := D.spillTo st n } ∧ Chg (DS pd ps pm) w1 wr) (fun i _ => ks.length - (intOf i).toNat)
 case atStart => exact ⟨0, Nat.zero_le _, rfl, HD.out.non hg1, Chg.refl _ _⟩
 case round =>
  obtain ⟨n, hn, rfl, hDn, hgn⟩ := hrel
  have HDn := Lh hDn
  clear hDn
  by_cases hlt2 : n < ks.length
  ·obtain ⟨g, rfl, hgw, hcell⟩ := HKeys.out n hlt2
   have hcell' := hgn.cell_some hcell (by rintro (e | e | e) <;> simp at e <;> omega)
   clear hcell
   have hk : (dirty D.cache)[n]? = some ks[n] := by rw [HK.out]; exact List.getElem?_eq_getElem hlt2
   obtain ⟨hkl, l, hll, hl64⟩ := dirty_look hok hk
   have hspill : D.spillTo st (n + 1) = if st n then (D.spillTo st n).set ks[n] l else D.spillTo st n := by
    show (match (dirty D.cache)[n]? with | some k => if st n then (D.spillTo st n).set k ((look D.cache k).getD []) else D.spillTo st n | none => D.spillTo st n) = _
    rw [hk]
    simp only [hll, Option.getD_some]
   obtain ⟨k, hkk⟩ : ∃ k, ks[n] = k := ⟨_, rfl⟩
   rw [hkk] at hcell' hk hkl hll hspill
   clear hkk
   have HSp := Lh hspill
   have HL := Lh hll
   have HL64 := Lh hl64
   clear hspill hk hll hl64
   obtain ⟨wo, rfl⟩ : ∃ wo : World, wo = wr := ⟨_, rfl⟩
   have hbx2 : wo.cell? ⟨bx, 0, none⟩ = some (.slice B m.length cm) := (hg1.non_then hgn).cell_some HBx.out hbn
   have hBm2 : Rd wo B m := HBm.out.keep (hg1.non_then hgn) hBn
   have HF := Lh (fall1_any bx B m cm n wo hbx2 hBm2 (by omega) hml)
   clear hbx2 hBm2
   rw [HSt.out] at HF
   cases hstn : st n with
   | false =>
    rw [hstn] at HF
    have HStn := Lh hstn
    clear hstn
    go_wp2_with fail
    refine HF.out.mono ?_
    rintro e w' ⟨rfl, rfl⟩
    go_wp2
    have hDW : IsD wo pd ps pm { D with sec := D.spillTo st (n + 1) } := by
     have e : D.spillTo st (n + 1) = D.spillTo st n := by rw [HSp.out, if_neg (by rw [HStn.out]; simp)]
     rw [e]; exact HDn.out
    go_roundw
    case rel => exact ⟨n + 1, by omega, by go_num, hDW, hgn⟩
    case measure => simp [intOf]; omega
   | true =>
   rw [hstn] at HF
   have HStn := Lh hstn
   clear hstn
   go_wp2_with fail
   refine HF.out.mono ?_
   rintro e w' ⟨rfl, rfl⟩
   go_wp2_with fail
   refine wp_region_still_tail 12 (by kernel_rfl) (by kernel_rfl) ?_
   simp only [List.take_succ_cons, List.take_zero, List.drop_succ_cons, List.drop_zero]
   change wpStill _ _ wo.drew (fun a' => wpList _ _ _ _ a' wo.drew) _ _
   have hd1 : IsD wo.drew pd ps pm { D with sec := D.spillTo st n } := HDn.out.non (Chg.refl _ _).drew
   have hgd : Chg (DS pd ps pm) w1 wo.drew := hgn.drew
   generalize wo.drew = w2 at hd1 hgd ⊢
   obtain ⟨A2, c2, _, k1, k2, _⟩ := hd1.cells
   have hlk := run_lookup hd1.2.choose_spec.choose_spec.2.2.1 (fun p hp => by have := (hok.keys p hp).1; have := hok.most; omega) k (by have := hok.most; omega) w2 rfl false
   simp only [HL.out] at hlk
   have hsl : (D.spillTo st n).length = D.sec.length := (spillTo_ok hok st n).1
   simp only [hsl] at k1
   have H2 := Lh hd1
   have HSL := Lh hsl
   clear hd1 hsl
   repeat still_step
   refine wpStill_nil ?_
   have hok2 := spillTo_ok hok st n
   refine wpList_store_sec rfl (.tmp 28) (.tmp 27) rfl ps k (D.spillTo st n) 113 l rfl rfl H2.out.2.choose_spec.choose_spec.2.1 hok2.2 (by rw [hok2.1]; exact hkl) HL64.out ?_
   intro W hbW hgW
   have hDW : IsD W pd ps pm { D with sec := D.spillTo st (n + 1) } := by
    have e : D.spillTo st (n + 1) = (D.spillTo st n).set k l := by rw [HSp.out, if_pos HStn.out]
    have ok2 := spillTo_ok hok st (n + 1)
    exact H2.out.setSec (D.spillTo st (n + 1)) (by rw [ok2.1, hok2.1]) ok2.2 (by rw [e]; exact hbW) hgW
   have HDW := Lh hDW
   have hgW2 : Chg (DS pd ps pm) w1 W := hgd.trans_same (hgW.mono (fun x e => .inr (.inl e)))
   clear hbW hgW hDW
   go_wp2
   go_roundw
   case rel => exact ⟨n + 1, by omega, by go_num, HDW.out, hgW2⟩
   case measure => simp [intOf]; omega
  ·obtain rfl : n = ks.length := by omega
   obtain ⟨A2, c2, _, _, k2, _⟩ := HDn.out.cells
   obtain ⟨W, hrun, hmW, hgW⟩ := run_clear HDn.out.2.choose_spec.choose_spec.2.2.1
   have hDW : IsD W pd ps pm (D.spill st) := by
    have hsp : D.spill st = { D with sec := D.spillTo st ks.length, cache := [] } := by unfold Dk.spill; rw [HDl.out]
    rw [hsp]
    exact HDn.out.clearCache hmW hgW
   have HDW := Lh hDW
   have hgW2 : Chg (DS pd ps pm) w W := (hg1.non_then hgn).trans_same (hgW.mono (fun x e => .inr (.inr e)))
   clear hmW hgW hDW
   go_wp2
   go_end0
   exact ⟨rfl, HDW.out, hgW2⟩
end
section
open Go.RowKit
theorem fall_any (pd ps pm : Nat) (D : Dk) (B : Option Addr) (m : List UInt8) (cm : Nat) (w : World) (h : IsD w pd ps pm D) (hBm : Rd w B m) (hBn : ∀ b o, B = some ⟨b, o, none⟩ → m ≠ [] → ¬ DS pd ps pm b) (hml : m.length ≤ 140737488351232) :
  Calls Tryz.prog 90 #[.pointer (some ⟨pd, 0, none⟩), .slice B m.length cm] w fun e w' => e = .returned (.tuple #[]) ∧ IsD w' pd ps pm (D.fall m) ∧ Chg (DS pd ps pm) w w' := by
 have hlt := h.lt
 have HSp := Lh (spill_fall pd ps pm w.heap.size D B m cm (w.alloc (.cells #[.slice B m.length cm] 29)) (h.non ((Chg.refl _ _).alloc _)) (by simp only [World.cell?]; rw [heap_alloc_new]; rfl) (hBm.non ((Chg.refl _ _).alloc _))
   (by rintro (e | e | e) <;> omega) hBn hml)
 clear h hBm
 go_enter Tryz.func90, Tryz.ntmps90
 go_wp2_with fail
 refine HSp.out.mono ?_
 rintro e w1 ⟨rfl, h1, hg1⟩
 obtain ⟨A, c, k0, _, _, k3, k4, _⟩ := h1.cells
 have f0 := h1.free 0
 have f3 := h1.free 3
 have f4 := h1.free 4
 have H1 := Lh h1
 clear h1
 go_wp2
 go_end0
 have hD := H1.out
 have hok := hD.1
 have s1 := hD.set 0 (.bool false) (D' := { D.spill (Dk.bit m) with up := false }) rfl rfl rfl ⟨hok.secs, hok.keys, hok.nodup, hok.most, hok.left0⟩ (fun A c => rfl)
 have s2 := s1.set 3 (.int .i64 0) (D' := { D.spill (Dk.bit m) with up := false, left := 0 }) rfl rfl rfl ⟨hok.secs, hok.keys, hok.nodup, hok.most, Int.le_refl _⟩ (fun A c => rfl)
 have s3 := s2.setStay (A1 := none) (l := []) (c1 := 0) (Rd.nil _ _) (fun b o e => by cases e) (Nat.le_refl _) (by simp)
 exact ⟨rfl, s3, (((((Chg.refl Non w).alloc _).non_then hg1).trans_same chg_field).trans_same chg_field).trans_same chg_field⟩
theorem stay_out {w : World} {pd ps pm : Nat} {D : Dk} (h : IsD w pd ps pm D) : ∃ A c, w.cell? ⟨pd, 4, none⟩ = some (.slice A D.stay.length c) ∧ Rd w A D.stay ∧ ∀ b o, A = some ⟨b, o, none⟩ → D.stay ≠ [] → ¬ DS pd ps pm b := by
 obtain ⟨hok, A, c, h1, h2, h3, h4, h5, h6, h7⟩ := h
 refine ⟨A, c, by rw [cell_of_row _ _ _ _ _ _ h1]; rfl, h4, ?_⟩
 intro b o e hne
 have := stay_ne h1 h3 h4 b o e hne
 rintro (e' | e' | e')
 ·exact this.1 e'
 ·exact h5 b o e hne e'
 ·exact this.2 e'
theorem operate_falls (pd ps pm : Nat) (D : Dk) (fv : Value) (w : World) (h : IsD w pd ps pm D) (hl : D.left = 1) (hml : D.stay.length ≤ 140737488351232) :
  Calls Tryz.prog 60 #[.pointer (some ⟨pd, 0, none⟩), fv] w fun e w' => e = .returned (.int .i64 60) ∧ IsD w' pd ps pm (D.fall D.stay) ∧ Chg (DS pd ps pm) w w' := by
 obtain ⟨A, c, k4, hrd, hst⟩ := stay_out h
 obtain ⟨_, _, _, _, _, k3, _⟩ := h.cells
 rw [hl] at k3
 have HF := Lh (fall_any pd ps pm D A D.stay c w h hrd hst hml)
 clear h hrd hst hl
 go_enter Tryz.func60, Tryz.ntmps60
 go_wp2_with fail
 refine HF.out.mono ?_
 rintro e w1 ⟨rfl, h1, hg1⟩
 go_wp2
 go_ret
 exact ⟨rfl, h1, hg1⟩
theorem wpStill_load_sec {w : World} {ops : Array Oper} {rest : List Oper} {op : Oper} {a : Act} {Q : Act → Prop} (hgd : op.guard = none) (x : Operand) (ho : op.op = .load 113 x)
  (b o : Nat) (hx : a.eval x = .pointer (some ⟨b, o, none⟩)) (l : List UInt8) (hc : w.rangeAt b o (l.map bv)) (hl : l.length = 64)
  (h : wpStill Tryz.prog ops w Q rest (a.put op.dst (.agg (secA l)))) : wpStill Tryz.prog ops w Q (op :: rest) a := by
 refine wpStill_step (fun K hK => ?_)
 have hw : Region.wanted op (yielded ops a.tmps) = true := by simp [Region.wanted, hgd]
 rw [if_pos hw]
 have hrun := run_loadVar_mid (P := Tryz.prog) w b o 113 (l.map bv) _ hc Tryz.underlying113 rfl (by rw [List.length_map, hl]; exact info_sec)
 unfold Oper.still execOp
 simp only [ho, hx, Instr.loadAt, Instr.sureAddr, Sem.run_bind, Sem.run_pure, Result.andThen_ok, hrun]
 exact ⟨rfl, hK _ h⟩
theorem upd_ok {m : List (Nat × List UInt8)} {i N : Nat} {l : List UInt8} (hn : (m.map (·.1)).Nodup) (hk : ∀ p ∈ m, p.1 < N ∧ p.2.length = 64) (hi : i < N) (hl : l.length = 64) :
  ((upd m i l).map (·.1)).Nodup ∧ ∀ p ∈ upd m i l, p.1 < N ∧ p.2.length = 64 := by
 by_cases hx : ∃ p ∈ m, p.1 = i
 ·obtain ⟨p, hp, rfl⟩ := hx
  obtain ⟨j, hj⟩ := List.getElem?_of_mem hp
  rw [upd_some hn hj rfl]
  refine ⟨?_, ?_⟩
  ·have : (m.set j (p.1, l)).map (·.1) = m.map (·.1) := by
    apply List.ext_getElem?
    intro k
    rw [List.getElem?_map, List.getElem?_map, List.getElem?_set]
    by_cases hkj : j = k
    ·subst hkj
     have hjl : j < m.length := (List.getElem?_eq_some_iff.1 hj).1
     obtain ⟨_, hmj⟩ := List.getElem?_eq_some_iff.1 hj
     simp [hjl, hmj]
    ·simp [hkj]
   rw [this]; exact hn
  ·intro q hq
   rcases List.mem_or_eq_of_mem_set hq with hq | rfl
   ·exact hk q hq
   ·exact ⟨hi, hl⟩
 ·have hx' : ∀ p ∈ m, p.1 ≠ i := fun p hp e => hx ⟨p, hp, e⟩
  rw [upd_none hx']
  refine ⟨?_, ?_⟩
  ·rw [List.map_append]
   refine List.nodup_append.2 ⟨hn, by simp, ?_⟩
   rintro a ha b hb rfl
   simp only [List.map_cons, List.map_nil, List.mem_singleton] at hb
   obtain ⟨p, hp, rfl⟩ := List.mem_map.1 ha
   exact hx' p hp hb
  ·intro q hq
   rcases List.mem_append.1 hq with hq | hq
   ·exact hk q hq
   ·rw [List.mem_singleton.1 hq]; exact ⟨hi, hl⟩
theorem IsD.setCache {w W : World} {pd ps pm : Nat} {D : Dk} (h : IsD w pd ps pm D) (i : Nat) (hi : i < D.sec.length) (l : List UInt8) (hl : l.length = 64) (hm : MapIs W pm (upd D.cache i l)) (hg : Chg (fun x => x = pm) w W) : IsD W pd ps pm { D with cache := upd D.cache i l } := by
 have hne := h.ne
 obtain ⟨hok, A, c, h1, h2, h3, h4, h5, h6, h7⟩ := h
 have hu := upd_ok hok.nodup hok.keys hi hl
 refine ⟨⟨hok.secs, hu.2, hu.1, hok.most, hok.left0⟩, A, c, ?_, ?_, hm, h4.keep hg (fun b o e hne' => (stay_ne h1 h3 h4 b o e hne').2), h5, h6, h7⟩
 ·exact (hg.block pd (Array.getElem?_eq_some_iff.1 h1).1 hne.2.1).trans h1
 ·exact (hg.block ps (Array.getElem?_eq_some_iff.1 h2).1 hne.2.2).trans h2
theorem Write1_any (pd ps pm p3 p4 p5 i c : Nat) (D : Dk) (B : Option Addr) (l : List UInt8) (w : World) (h : IsD w pd ps pm D) (h3 : w.cell? ⟨p3, 0, none⟩ = some (.pointer (some ⟨pd, 0, none⟩))) (h4 : w.cell? ⟨p4, 0, none⟩ = some (.int .i64 (i : Int)))
  (h5 : w.cell? ⟨p5, 0, none⟩ = some (.slice B 64 c)) (hr : Rd w B l) (hl : l.length = 64) (hi : i < D.sec.length) :
  Calls Tryz.prog 61 #[.pointer (some ⟨p5, 0, none⟩), .pointer (some ⟨p3, 0, none⟩), .pointer (some ⟨p4, 0, none⟩)] w fun e w' => e = .returned (.tuple #[]) ∧ IsD w' pd ps pm { D with cache := upd D.cache i l } ∧ Chg (DS pd ps pm) w w' := by
 have hok := h.1
 obtain ⟨b, o, rfl, hbl, hcell⟩ := hr.at_ (by omega)
 have hrg : w.rangeAt b o (l.map bv) := by
  intro j v hv
  rw [List.getElem?_map] at hv
  obtain ⟨x, hx, rfl⟩ := Option.map_eq_some_iff.1 hv
  obtain ⟨hj, rfl⟩ := List.getElem?_eq_some_iff.1 hx
  exact hcell j hj
 have HL := Lh hl
 clear hcell hl hr
 have hd1 : IsD w.drew pd ps pm D := h.non (Chg.refl _ _).drew
 have k3 : w.drew.cell? ⟨p3, 0, none⟩ = some (.pointer (some ⟨pd, 0, none⟩)) := h3
 have k4 : w.drew.cell? ⟨p4, 0, none⟩ = some (.int .i64 (i : Int)) := h4
 have k5 : w.drew.cell? ⟨p5, 0, none⟩ = some (.slice (some ⟨b, o, none⟩) 64 c) := h5
 have hrg' : w.drew.rangeAt b o (l.map bv) := hrg
 have hgd : Chg (DS pd ps pm) w w.drew := (Chg.refl _ _).drew
 clear h h3 h4 h5 hrg
 go_enter Tryz.func61, Tryz.ntmps61
 go_wp2_with fail
 refine wp_region_still_tail 8 (by kernel_rfl) (by kernel_rfl) ?_
 simp only [List.take_succ_cons, List.take_zero, List.drop_succ_cons, List.drop_zero]
 change wpStill _ _ w.drew (fun a' => wpList _ _ _ _ a' w.drew) _ _
 generalize w.drew = w2 at hd1 k3 k4 k5 hrg' hgd ⊢
 obtain ⟨A2, c2, _, _, k2, _⟩ := hd1.cells
 obtain ⟨W, hrun, hmW, hgW⟩ := run_update hd1.2.choose_spec.choose_spec.2.2.1 (fun p hp => by have := (hok.keys p hp).1; have := hok.most; omega) i (by have := hok.most; omega) l
 replace hrun : (Instr.mapUpdate 38 (.map (some pm)) (.int .i64 (i : Int)) (.agg (secA l))).run Tryz.prog w2 = .ok () W := hrun
 have HDW := Lh (hd1.setCache i hi l HL.out hmW hgW)
 have HRg := Lh hrg'
 have hgW2 : Chg (DS pd ps pm) w W := hgd.trans_same (hgW.mono (fun x e => .inr (.inr e)))
 clear hmW hgW hd1 hrg'
 have harr : (Instr.arrayAt 113 (.slice (some ⟨b, o, none⟩) 64 c)).run Tryz.prog w2 = .ok (.pointer (some ⟨b, o, none⟩)) w2 := run_arrayAt w2 _ _ 64 _ 64 c Tryz.underlying113 (Nat.le_refl _)
 iterate 7 still_step
 refine wpStill_load_sec rfl (.tmp 9) rfl b o rfl l HRg.out HL.out ?_
 refine wpStill_nil ?_
 go_wp2
 go_end0
 exact ⟨rfl, HDW.out, hgW2⟩
theorem IsD.left_set {w : World} {pd ps pm : Nat} {D : Dk} (h : IsD w pd ps pm D) (n : Int) (hn : 0 ≤ n) : IsD (w.setCell ⟨pd, 3, none⟩ (.int .i64 n)) pd ps pm { D with left := n } := by
 have hok := h.1
 exact h.set 3 (.int .i64 n) (D' := { D with left := n }) rfl rfl rfl ⟨hok.secs, hok.keys, hok.nodup, hok.most, hn⟩ (fun A c => rfl)
theorem operate_goes (pd ps pm : Nat) (D D2 : Dk) (f : FuncId) (cap : Array Value) (w : World) (h : IsD w pd ps pm D) (hl : D.left ≠ 1) (hlm : D.left ≤ 9223372036854775807)
  (fv : Value) (hfv : fv = .func (.func 61) #[] cap ∧ f = 61 ∨ fv = .func (.func 80) #[] cap ∧ f = 80)
  (hdo : ∀ W, IsD W pd ps pm { D with left := max (D.left - 1) 0 } → Chg (fun k => k = pd) w W → Calls Tryz.prog f cap W fun e w' => e = .returned (.tuple #[]) ∧ IsD w' pd ps pm D2 ∧ Chg (DS pd ps pm) W w') :
  Calls Tryz.prog 60 #[.pointer (some ⟨pd, 0, none⟩), fv] w fun e w' => e = .returned (.int .i64 0) ∧ IsD w' pd ps pm D2 ∧ Chg (DS pd ps pm) w w' := by
 obtain ⟨_, _, _, _, _, k3, _⟩ := h.cells
 have f3 := h.free 3
 have h0 := h.1.left0
 have hL := Lh (hdo _ (h.left_set (max (D.left - 1) 0) (by omega)) ((Chg.refl (fun k => k = pd) _).setCell (p := ⟨pd, 3, none⟩) (.inl rfl) _))
 clear hdo h
 obtain ⟨n, hn⟩ : ∃ n, D.left = n := ⟨_, rfl⟩
 rw [hn] at hl hlm k3 h0 hL
 clear hn
 have hd : (n == 1) = false := by simpa using hl
 have hmx : max (n - 1) 0 = max (n - 1) 0 := rfl
 rcases hfv with ⟨rfl, rfl⟩ | ⟨rfl, rfl⟩
 all_goals
  go_enter Tryz.func60, Tryz.ntmps60
  go_wp2_with fail
  refine hL.out.mono ?_
  rintro e w1 ⟨rfl, h1, hg⟩
  go_wp2
  go_ret
  exact ⟨rfl, h1, chg_field.trans_same hg⟩
structure Dk.Sz (D : Dk) : Prop where
 stay : D.stay.length ≤ 140737488351232
 left : D.left ≤ 9223372036854775807
theorem Write_any (pd ps pm : Nat) (D : Dk) (i : Int) (B : Option Addr) (l : List UInt8) (c : Nat) (w : World) (h : IsD w pd ps pm D) (hsz : D.Sz) (hr : Rd w B l) (hBn : ∀ b o, B = some ⟨b, o, none⟩ → l ≠ [] → b ≠ pd) :
  Calls Tryz.prog 24 #[.pointer (some ⟨pd, 0, none⟩), .int .i64 i, .slice B l.length c] w fun e w' => e = .returned (.int .i64 (D.write i l).2) ∧ IsD w' pd ps pm (D.write i l).1 ∧ Chg (DS pd ps pm) w w' := by
 have hlt := h.lt
 -- the boxes
 have hb0 : ∀ o o' : Obj, (((w.alloc (.cells #[.pointer (some ⟨pd, 0, none⟩)] 33)).alloc o).alloc o').heap[w.heap.size]? = some (.cells #[.pointer (some ⟨pd, 0, none⟩)] 33 (0, 0)) := fun o o' => by
  rw [Below.heap_alloc _ o' _ (by simp; omega)]; exact heap_alloc2_old w _ o
 obtain ⟨W0, hW0⟩ : ∃ W0, ((w.alloc (.cells #[.pointer (some ⟨pd, 0, none⟩)] 33)).alloc (.cells #[.int .i64 i] 3)).alloc (.cells #[.slice B l.length c] 29) = W0 := ⟨_, rfl⟩
 have hg0 : Chg Non w W0 := by rw [← hW0]; exact (((Chg.refl _ _).alloc _).alloc _).alloc _
 have hs0 : W0.heap.size = w.heap.size + 3 := by rw [← hW0]; simp
 have x0 : W0.cell? ⟨w.heap.size, 0, none⟩ = some (.pointer (some ⟨pd, 0, none⟩)) := by rw [← hW0, cell_of_row _ _ _ _ _ _ (hb0 _ _)]; rfl
 have x1 : W0.cell? ⟨w.heap.size + 1, 0, none⟩ = some (.int .i64 i) := by
  rw [← hW0, cell_of_row _ _ _ #[.int .i64 i] 3 (0, 0) (by rw [Below.heap_alloc _ _ _ (by simp)]; exact heap_alloc2_new w _ _)]; rfl
 have x2 : W0.cell? ⟨w.heap.size + 1 + 1, 0, none⟩ = some (.slice B l.length c) := by
  rw [← hW0, cell_of_row _ _ _ #[.slice B l.length c] 29 (0, 0) (by
    have := heap_alloc_new ((w.alloc (.cells #[.pointer (some ⟨pd, 0, none⟩)] 33)).alloc (.cells #[.int .i64 i] 3)) (.cells #[.slice B l.length c] 29)
    simpa using this)]
  rfl
 have h0 := h.non hg0
 have hr0 := hr.non hg0
 have hrd := ready_ok pd ps pm D W0 h0
 have hhas := has_ok pd ps pm D i W0 h0
 have HW0 := Lh hW0
 clear hW0 hb0 h hr
 unfold Dk.write
 cases hup : D.up with
 | false =>
  have hr1 : D.ready = 60 := by unfold Dk.ready; rw [hup]; rfl
  rw [hr1] at hrd
  have HR := Lh hrd
  have H0 := Lh h0
  clear hrd hhas hr1 h0 hup
  simp only [if_true]
  go_enter Tryz.func24, Tryz.ntmps24
  go_wp2_with fail
  rw [HW0.out]
  refine HR.out.mono ?_
  rintro e w' ⟨rfl, rfl⟩
  go_wp2
  go_ret
  exact ⟨rfl, H0.out, hg0.of_non⟩
 | true =>
  have hr1 : D.ready = 0 := by unfold Dk.ready; rw [hup]; rfl
  rw [hr1] at hrd
  have HR := Lh hrd
  have H0 := Lh h0
  clear hrd hr1 h0 hup
  simp only [Bool.true_eq_false, if_false]
  by_cases hin : 0 ≤ i ∧ i < D.sec.length
  ·rw [decide_eq_true hin] at hhas
   have HH := Lh hhas
   simp only [hin, and_self, not_true_eq_false, if_false]
   clear hhas
   by_cases h64 : l.length = 64
   ·rw [if_neg (show ¬ l.length ≠ 64 from fun h => h h64)]
    have hl64 : ((l.length : Int) != 64) = false := by simp; omega
    obtain ⟨k, rfl⟩ : ∃ k : Nat, i = k := ⟨i.toNat, by omega⟩
    have hk : k < D.sec.length := by omega
    simp only [Int.toNat_natCast]
    have H64 := Lh h64
    clear h64 hin
    unfold Dk.operate
    by_cases hle : D.left = 1
    ·simp only [hle, if_true]
     have HO := Lh (fun fv => operate_falls pd ps pm D fv W0 H0.out hle hsz.stay)
     clear hle
     go_enter Tryz.func24, Tryz.ntmps24
     go_wp2_with fail
     rw [HW0.out]
     refine HR.out.mono ?_
     rintro e w' ⟨rfl, rfl⟩
     go_wp2_with fail
     refine HH.out.mono ?_
     rintro e w' ⟨rfl, rfl⟩
     go_wp2_with fail
     refine (HO.out _).mono ?_
     rintro e w1 ⟨rfl, h1, hg1⟩
     go_wp2
     go_ret
     exact ⟨rfl, h1, hg0.non_then hg1⟩
    ·simp only [hle, if_false]
     have HO := Lh (operate_goes pd ps pm D { D with left := max (D.left - 1) 0, cache := upd D.cache k l } 61 #[.pointer (some ⟨w.heap.size + 1 + 1, 0, none⟩), .pointer (some ⟨w.heap.size, 0, none⟩), .pointer (some ⟨w.heap.size + 1, 0, none⟩)] W0 H0.out hle hsz.left
       (.func (.func 61) #[] #[.pointer (some ⟨w.heap.size + 1 + 1, 0, none⟩), .pointer (some ⟨w.heap.size, 0, none⟩), .pointer (some ⟨w.heap.size + 1, 0, none⟩)]) (.inl ⟨rfl, rfl⟩)
       (fun W hW hgW => Write1_any pd ps pm w.heap.size (w.heap.size + 1) (w.heap.size + 1 + 1) k c { D with left := max (D.left - 1) 0 } B l W hW (hgW.cell_some x0 (by show w.heap.size ≠ pd; omega)) (hgW.cell_some x1 (by show w.heap.size + 1 ≠ pd; omega))
         (hgW.cell_some (by rw [x2, H64.out]) (by show w.heap.size + 1 + 1 ≠ pd; omega)) (hr0.keep hgW hBn) H64.out hk))
     clear hle
     go_enter Tryz.func24, Tryz.ntmps24
     go_wp2_with fail
     rw [HW0.out]
     refine HR.out.mono ?_
     rintro e w' ⟨rfl, rfl⟩
     go_wp2_with fail
     refine HH.out.mono ?_
     rintro e w' ⟨rfl, rfl⟩
     go_wp2_with fail
     refine HO.out.mono ?_
     rintro e w1 ⟨rfl, h1, hg1⟩
     go_wp2
     go_ret
     exact ⟨rfl, h1, hg0.non_then hg1⟩
   ·rw [if_pos (show l.length ≠ 64 from h64)]
    have hl64 : ((l.length : Int) != 64) = true := by simp; omega
    clear h64
    go_enter Tryz.func24, Tryz.ntmps24
    go_wp2_with fail
    rw [HW0.out]
    refine HR.out.mono ?_
    rintro e w' ⟨rfl, rfl⟩
    go_wp2_with fail
    refine HH.out.mono ?_
    rintro e w' ⟨rfl, rfl⟩
    go_wp2
    go_ret
    exact ⟨rfl, H0.out, hg0.of_non⟩
  ·rw [decide_eq_false hin] at hhas
   have HH := Lh hhas
   simp only [hin, not_false_eq_true, if_true]
   clear hhas
   go_enter Tryz.func24, Tryz.ntmps24
   go_wp2_with fail
   rw [HW0.out]
   refine HR.out.mono ?_
   rintro e w' ⟨rfl, rfl⟩
   go_wp2_with fail
   refine HH.out.mono ?_
   rintro e w' ⟨rfl, rfl⟩
   go_wp2
   go_ret
   exact ⟨rfl, H0.out, hg0.of_non⟩
end
section
open Go.RowKit
theorem sz_fall {D : Dk} (st : List UInt8) : (D.fall st).Sz := ⟨by simp [Dk.fall], by simp [Dk.fall]⟩
theorem sz_crash {D : Dk} (h : D.Sz) (st : List UInt8) : (D.crash st).1.Sz := by
 unfold Dk.crash
 split
 ·exact h
 ·exact sz_fall _
theorem sz_start {D : Dk} (h : D.Sz) : D.start.1.Sz := by
 unfold Dk.start
 split
 ·exact h
 ·exact ⟨h.stay, h.left⟩
theorem sz_arm {D : Dk} (h : D.Sz) (n : Int) (l : List UInt8) (hn : n ≤ 9223372036854775807) (hl : l.length ≤ 140737488351232) : (D.arm n l).1.Sz := by
 unfold Dk.arm
 repeat' split
 all_goals first
  | exact h
  | exact ⟨hl, hn⟩
theorem rlen_fallL (st : List UInt8) : ∀ (l : List (List UInt8 × Option (List UInt8))) (n : Nat), (Rk.fallL st n l).length = l.length := fun l n => fallL_len st l n
theorem rlen_falls (E : Rk) : E.falls.1.l.length = E.l.length := by
 unfold Rk.falls
 repeat' split
 all_goals first
  | rfl
  | exact rlen_fallL _ _ _
theorem rlen_write (E : Rk) (i : Int) (b : List UInt8) : (E.write i b).1.l.length = E.l.length := by
 unfold Rk.write
 repeat' split
 all_goals first
  | rfl
  | exact rlen_falls _
  | (simp only [List.length_set]; exact rlen_falls _)
theorem rlen_flush (E : Rk) : E.flush.1.l.length = E.l.length := by
 unfold Rk.flush
 repeat' split
 all_goals first
  | rfl
  | exact rlen_falls _
  | (simp only [Rk.flushL, List.length_map]; exact rlen_falls _)
theorem rlen_crash (E : Rk) (st : List UInt8) : (E.crash st).1.l.length = E.l.length := by
 unfold Rk.crash
 split
 ·rfl
 ·exact rlen_fallL _ _ _
theorem rlen_start (E : Rk) : E.start.1.l.length = E.l.length := by
 unfold Rk.start
 split <;> rfl
theorem rlen_arm (E : Rk) (n : Int) (st : List UInt8) : (E.arm n st).1.l.length = E.l.length := by
 unfold Rk.arm
 repeat' split
 all_goals rfl
structure Twin (n : Nat) (D : Dk) (E : Rk) : Prop where
 ok : D.Ok
 sz : D.Sz
 same : DSame D E
 len : E.l.length = n
theorem Twin.dlen {n : Nat} {D : Dk} {E : Rk} (h : Twin n D E) : D.sec.length = n := by rw [← h.same.len, h.len]
theorem ok_fall {D : Dk} (h : D.Ok) (st : List UInt8) : (D.fall st).Ok := by
 obtain ⟨h1, h2⟩ := spillTo_ok h (Dk.bit st) D.cache.length
 refine ⟨h2, by simp [Dk.fall, Dk.spill], by simp [Dk.fall, Dk.spill], ?_, by simp [Dk.fall]⟩
 show (D.spillTo (Dk.bit st) D.cache.length).length ≤ 1024
 rw [h1]
 exact h.most
theorem ok_write {D : Dk} (h : D.Ok) (i : Int) (b : List UInt8) : (D.write i b).1.Ok := by
 unfold Dk.write
 split
 ·exact h
 split
 ·exact h
 rename_i hi
 split
 ·exact h
 rename_i hb
 unfold Dk.operate
 split
 ·exact ok_fall h _
 ·have hu := upd_ok h.nodup h.keys (i := i.toNat) (l := b) (by omega) (by omega)
  exact ⟨h.secs, hu.2, hu.1, h.most, by show 0 ≤ max (D.left - 1) 0; omega⟩
def rkAt (E : Rk) (i : Nat) : List UInt8 := match E.l[i]? with | some (f, c) => c.getD f | none => []
theorem rkAt_some {E : Rk} {i : Nat} {f : List UInt8} {c : Option (List UInt8)} (h : E.l[i]? = some (f, c)) : rkAt E i = c.getD f := by
 unfold rkAt
 rw [h]
theorem at_rk {D : Dk} {E : Rk} (h : DSame D E) {i : Nat} (hi : i < E.l.length) : D.at_ i = rkAt E i ∧ ∃ f c, E.l[i]? = some (f, c) ∧ D.sec.getD i [] = f := by
 obtain ⟨⟨f, c⟩, hx⟩ : ∃ x, E.l[i]? = some x := ⟨_, List.getElem?_eq_getElem hi⟩
 have := at_same h i f c hx
 exact ⟨by rw [rkAt_some hx]; exact this.1, f, c, hx, this.2⟩
end
section
open Go.RowKit
structure Rk.Sz (E : Rk) : Prop where
 stay : E.stay.length ≤ 140737488351232
 left : 0 ≤ E.left ∧ E.left ≤ 9223372036854775807
 len : E.l.length ≤ 1024
theorem Twin.rsz {n : Nat} {D : Dk} {E : Rk} (h : Twin n D E) : E.Sz := by
 refine ⟨by rw [← h.same.stay]; exact h.sz.stay, by rw [← h.same.left]; exact ⟨h.ok.left0, h.sz.left⟩, by rw [h.same.len]; exact h.ok.most⟩
theorem rFalls (B p q : Nat) (E : Rk) (w : World) (h : IsRk B p q w E) (hz : E.Sz) :
  Calls Tryz.prog 92 #[.pointer (some ⟨p, 0, none⟩)] w fun e w' => e = .returned (.bool E.falls.2) ∧ IsRk B p q w' E.falls.1 ∧ RChg p q w w' := by
 obtain ⟨h1, h2, h3⟩ := hz
 obtain ⟨cap, A3, c3, k0, k1, k2, k3, fp, fq, _, _, z3, z4, z5⟩ := h.cells
 have hst := z3.rd
 have f2 := fp 2
 have HI := Lh h
 have HL := Lh (h.setLeft (E.left - 1))
 have HF := Lh (fun W (hg : IsRk B p q W { E with left := E.left - 1 }) (hr : Rd W A3 E.stay) => rFall B p q { E with left := E.left - 1 } A3 E.stay c3 W hg hr h1 h3)
 have HFe : Hid (Rk.fall { E with left := E.left - 1 } E.stay = E.fall E.stay) := Lh rfl
 have hG : RChg p q w (w.setCell ⟨p, 2, none⟩ (.int .i64 (E.left - 1))) := rs_p (RChg.refl _ _ _) h
 have HS := Lh (hst.ref hG)
 unfold Rk.falls
 by_cases e0 : E.left = 0
 ·rw [if_pos e0]
  have hb : (E.left == 0) = true := by rw [beq_iff_eq]; exact e0
  obtain ⟨n, hn⟩ : ∃ n, E.left = n := ⟨_, rfl⟩
  rw [hn] at hb k2
  clear fp fq z3 z4 z5 h hn HL HF HFe HS hG e0 h2 hst
  go_enter Tryz.func92, Tryz.ntmps92
  go_wp2_with fail
  go_ret
  exact ⟨rfl, HI.out, RChg.refl _ _ _⟩
 rw [if_neg e0]
 have hb : (E.left == 0) = false := by rw [beq_eq_false_iff_ne]; exact e0
 have hw : IntKind.i64.wrap (E.left - 1) = E.left - 1 := Go.IntWalk.i64_in _ (by omega)
 have HG := Lh hG
 by_cases e1 : 0 < E.left - 1
 ·rw [if_pos e1]
  have hb1 : decide (1 < E.left) = true := by rw [decide_eq_true_eq]; omega
  have hb1' : 1 < E.left := by omega
  obtain ⟨n, hn⟩ : ∃ n, E.left = n := ⟨_, rfl⟩
  simp only [hn] at hb hb1 hb1' k2 hw HL HG ⊢
  clear fp fq z3 z4 z5 h hn HF HFe HS hG e0 e1 h2 hst
  go_enter Tryz.func92, Tryz.ntmps92
  go_wp2_with fail
  go_ret
  exact ⟨rfl, HL.out, HG.out⟩
 ·rw [if_neg e1]
  have hb1 : decide (1 < E.left) = false := by rw [decide_eq_false_iff_not]; omega
  have hb1' : E.left ≤ 1 := by omega
  have hb1'' : ¬ 1 < E.left := by omega
  rw [← HFe.out]
  have HFF := Lh (HF.out _ HL.out HS.out)
  obtain ⟨n, hn⟩ : ∃ n, E.left = n := ⟨_, rfl⟩
  simp only [hn] at hb hb1 hb1' hb1'' k2 hw HG HFF ⊢
  clear fp fq z3 z4 z5 h hn HF HFe HS HL hG e0 e1 h2 hst
  go_enter Tryz.func92, Tryz.ntmps92
  go_wp2_with fail
  refine HFF.out.mono ?_
  rintro e w2 ⟨rfl, hI, hg⟩
  have HI2 := Lh hI
  have HG2 := Lh (HG.out.trans_same hg)
  clear hI hg
  go_wp2_with fail
  go_ret
  exact ⟨rfl, HI2.out, HG2.out⟩
theorem rCrash (B p q : Nat) (E : Rk) (A : Option Addr) (st : List UInt8) (cs : Nat) (w : World) (h : IsRk B p q w E) (hz : E.Sz) (hr : Rd w A st) (hst : st.length ≤ 140737488351232) :
  Calls Tryz.prog 42 #[.pointer (some ⟨p, 0, none⟩), .slice A st.length cs] w fun e w' => e = .returned (.int .i64 (E.crash st).2) ∧ IsRk B p q w' (E.crash st).1 ∧ RChg p q w w' := by
 obtain ⟨cap, A3, c3, k0, k1, k2, k3, fp, fq, _⟩ := h.cells
 have HI := Lh h
 have HF := Lh (rFall B p q E A st cs w h hr hst hz.len)
 unfold Rk.crash
 obtain ⟨d, hd⟩ : ∃ d, E.down = d := ⟨_, rfl⟩
 rw [hd] at k1 ⊢
 clear fp fq h hr hd
 cases d with
 | true =>
  rw [if_pos rfl]
  go_enter Tryz.func42, Tryz.ntmps42
  go_wp2_with fail
  go_ret
  exact ⟨rfl, HI.out, RChg.refl _ _ _⟩
 | false =>
  rw [if_neg (by simp)]
  go_enter Tryz.func42, Tryz.ntmps42
  go_wp2_with fail
  refine HF.out.mono ?_
  rintro e w2 ⟨rfl, hI, hg⟩
  have HI2 := Lh hI
  have HG2 := Lh hg
  clear hI hg
  go_wp2_with fail
  go_ret
  exact ⟨rfl, HI2.out, HG2.out⟩
theorem rStart (B p q : Nat) (E : Rk) (w : World) (h : IsRk B p q w E) :
  Calls Tryz.prog 43 #[.pointer (some ⟨p, 0, none⟩)] w fun e w' => e = .returned (.int .i64 E.start.2) ∧ IsRk B p q w' E.start.1 ∧ RChg p q w w' := by
 obtain ⟨cap, A3, c3, k0, k1, k2, k3, fp, fq, _⟩ := h.cells
 have f1 := fp 1
 have HI := Lh h
 have HD := Lh (h.setDown false)
 have HG : Hid (RChg p q w (w.setCell ⟨p, 1, none⟩ (.bool false))) := Lh (rs_p (RChg.refl _ _ _) h)
 unfold Rk.start
 obtain ⟨d, hd⟩ : ∃ d, E.down = d := ⟨_, rfl⟩
 rw [hd] at k1 ⊢
 clear fp fq h hd
 cases d with
 | true =>
  rw [if_pos rfl]
  go_enter Tryz.func43, Tryz.ntmps43
  go_wp2_with fail
  go_ret
  exact ⟨rfl, HD.out, HG.out⟩
 | false =>
  rw [if_neg (by simp)]
  go_enter Tryz.func43, Tryz.ntmps43
  go_wp2_with fail
  go_ret
  exact ⟨rfl, HI.out, RChg.refl _ _ _⟩
theorem rArm (B p q : Nat) (E : Rk) (n : Int) (A : Option Addr) (st : List UInt8) (cs : Nat) (w : World) (h : IsRk B p q w E) (hr : Rd w A st) (hst : st.length ≤ 140737488351232) :
  Calls Tryz.prog 44 #[.pointer (some ⟨p, 0, none⟩), .int .i64 n, .slice A st.length cs] w fun e w' => e = .returned (.int .i64 (E.arm n st).2) ∧ IsRk B p q w' (E.arm n st).1 ∧ RChg p q w w' := by
 obtain ⟨cap, A3, c3, k0, k1, k2, k3, fp, fq, _⟩ := h.cells
 have hlt := h.lt.1
 have f2 := fp 2
 have HI := Lh h
 unfold Rk.arm
 by_cases hd : E.down = true
 ·rw [if_pos hd]
  rw [hd] at k1
  clear fp fq h hd hr
  go_enter Tryz.func44, Tryz.ntmps44
  go_wp2_with fail
  go_ret
  exact ⟨rfl, HI.out, RChg.refl _ _ _⟩
 ·rw [if_neg hd]
  have hd' : E.down = false := by simpa using hd
  rw [hd'] at k1
  by_cases h1 : n < 1
  ·rw [if_pos h1]
   have hb : decide (n < 1) = true := decide_eq_true h1
   clear fp fq h hd hd' hr h1
   go_enter Tryz.func44, Tryz.ntmps44
   go_wp2_with fail
   go_ret
   exact ⟨rfl, HI.out, RChg.refl _ _ _⟩
  ·rw [if_neg h1]
   have hb : decide (n < 1) = false := decide_eq_false h1
   have hG : RChg p q w (w.setCell ⟨p, 2, none⟩ (.int .i64 n)) := rs_p (RChg.refl _ _ _) h
   have HL := Lh (h.setLeft n)
   have HC := Lh (rCopyN A st cs _ (hr.ref hG) hst)
   have HG := Lh hG
   have hB := h.ge.1
   clear fp fq h hd hd' hr h1 hG
   go_enter Tryz.func44, Tryz.ntmps44
   go_wp2_with fail
   refine HC.out.mono ?_
   rintro e u ⟨A2, c2, rfl, _, g1, g2, g3, g4⟩
   have HI2 := HL.out.non g4
   have HG2 := Lh (HG.out.then_non g4)
   obtain ⟨cap', A4, c4, q0, q1, q2, q3, fp, fq, _⟩ := HI2.cells
   have f3 := fp 3
   have HD := Lh (HI2.setStay A2 st c2 (g3.mono (by have := HG.out.size; have := HI.out.lt.1; have := HI.out.ge.1; omega)) g1 g2)
   have HG3 : Hid (RChg p q w (u.setCell ⟨p, 3, none⟩ (.slice A2 st.length c2))) := Lh (rs_p HG2.out HI2)
   clear g1 g2 g3 g4 HI2 fp fq
   go_wp2_with fail
   go_ret
   exact ⟨rfl, HD.out, HG3.out⟩
theorem rRead_down (B p q : Nat) (E : Rk) (i : Int) (w : World) (h : IsRk B p q w E) (hd : E.down = true) :
  Calls Tryz.prog 18 #[.pointer (some ⟨p, 0, none⟩), .int .i64 i] w fun e w' => e = .returned (.tuple #[.slice none 0 0, .int .i64 60]) ∧ w = w' := by
 obtain ⟨cap, A3, c3, k0, k1, k2, k3, fp, fq, _⟩ := h.cells
 rw [hd] at k1
 clear fp fq h
 have hnil : ∀ W a n c, (binOp .neq 29 (.slice a n c) (.slice none 0 0)).run Tryz.prog W = .ok (.bool (!a.isNone)) W := nil_neq
 go_enter Tryz.func18, Tryz.ntmps18
 go_wp2_with fail
 go_ret2
 exact ⟨rfl, rfl⟩
theorem rRead_ok (B p q : Nat) (E : Rk) (i : Nat) (f : List UInt8) (c : Option (List UInt8)) (w : World) (h : IsRk B p q w E) (hd : E.down = false) (hi : E.l[i]? = some (f, c)) :
  Calls Tryz.prog 18 #[.pointer (some ⟨p, 0, none⟩), .int .i64 (i : Int)] w fun e w' => ∃ A k, e = .returned (.tuple #[.slice A 64 k, .int .i64 0]) ∧ 64 ≤ k ∧ k ≤ maxLen ∧ (c.getD f).length = 64 ∧ Own w.heap.size w' A (c.getD f) ∧ Chg Non w w' := by
 obtain ⟨cap, A3, c3, k0, k1, k2, k3, fp, fq, z1, _⟩ := h.cells
 obtain ⟨⟨v1, r1, s1⟩, ⟨v2, r2, s2⟩⟩ := h.row hi
 have hil := (List.getElem?_eq_some_iff.1 hi).1
 rw [hd] at k1
 have hb : decide ((i : Int) < 0) = false := by rw [decide_eq_false_iff_not]; omega
 have hb2 : decide ((i : Int) ≥ (E.l.length : Int)) = false := by rw [decide_eq_false_iff_not]; omega
 clear fp fq h hi
 cases c with
 | none =>
  have s2 : v2 = .slice none 0 0 := s2
  subst s2
  obtain ⟨b, o, k, rfl, g1, g2, g3, g4⟩ := s1
  have HC := Lh (rCopy (some ⟨b, o, none⟩) f k w g3.rd (by omega))
  rw [g4] at HC
  have HL : Hid (f.length = 64) := Lh g4
  clear g1 g2 g3 g4
  have hnil : ∀ W a n c, (binOp .neq 29 (.slice a n c) (.slice none 0 0)).run Tryz.prog W = .ok (.bool (!a.isNone)) W := nil_neq
  go_enter Tryz.func18, Tryz.ntmps18
  go_wp2_with fail
  refine HC.out.mono ?_
  rintro e u ⟨A2, c2, rfl, g1, g2, g3, g4⟩
  have HO := Lh g3
  have HG := Lh g4
  have HK := Lh (And.intro g1 g2)
  clear g1 g2 g3 g4
  go_wp2_with fail
  go_ret2
  exact ⟨A2, c2, by rw [← HL.out]; rfl, by rw [← HL.out]; exact HK.out.1, HK.out.2, HL.out, HO.out, HG.out⟩
 | some c =>
  obtain ⟨b, o, k, rfl, g1, g2, g3, g4⟩ := s2
  obtain ⟨b', o', k', rfl, _⟩ := s1
  have HC := Lh (rCopy (some ⟨b, o, none⟩) c k w g3.rd (by omega))
  rw [g4] at HC
  have HL : Hid (c.length = 64) := Lh g4
  clear g1 g2 g3 g4
  have hnil : ∀ W a n c, (binOp .neq 29 (.slice a n c) (.slice none 0 0)).run Tryz.prog W = .ok (.bool (!a.isNone)) W := nil_neq
  go_enter Tryz.func18, Tryz.ntmps18
  go_wp2_with fail
  refine HC.out.mono ?_
  rintro e u ⟨A2, c2, rfl, g1, g2, g3, g4⟩
  have HO := Lh g3
  have HG := Lh g4
  have HK := Lh (And.intro g1 g2)
  clear g1 g2 g3 g4
  go_wp2_with fail
  go_ret2
  exact ⟨A2, c2, by rw [← HL.out]; rfl, by rw [← HL.out]; exact HK.out.1, HK.out.2, HL.out, HO.out, HG.out⟩
theorem rWrite (B p q : Nat) (E : Rk) (i : Int) (A : Option Addr) (b : List UInt8) (cb : Nat) (w : World) (h : IsRk B p q w E) (hz : E.Sz) (hr : Rd w A b) (hb : b.length ≤ 140737488351232) :
  Calls Tryz.prog 46 #[.pointer (some ⟨p, 0, none⟩), .int .i64 i, .slice A b.length cb] w fun e w' => e = .returned (.int .i64 (E.write i b).2) ∧ IsRk B p q w' (E.write i b).1 ∧ RChg p q w w' := by
 obtain ⟨cap, A3, c3, k0, k1, k2, k3, fp, fq, z1, _⟩ := h.cells
 have HI := Lh h
 have HF := Lh (rFalls B p q E w h hz)
 have hlenF := rlen_falls E
 have hlen := hz.len
 have HS := Lh (fun W (hg : RChg p q w W) => hr.ref hg)
 unfold Rk.write
 obtain ⟨d, hd⟩ : ∃ d, E.down = d := ⟨_, rfl⟩
 rw [hd] at k1 ⊢
 clear fp fq h hd hr hz
 cases d with
 | true =>
  rw [if_pos rfl]
  go_enter Tryz.func46, Tryz.ntmps46
  go_wp2_with fail
  go_ret
  exact ⟨rfl, HI.out, RChg.refl _ _ _⟩
 | false =>
  rw [if_neg (by simp)]
  by_cases hin : 0 ≤ i ∧ i < E.l.length
  case neg =>
   rw [if_pos hin]
   by_cases h0 : i < 0
   ·have hb0 : decide (i < 0) = true := by rw [decide_eq_true_eq]; exact h0
    clear hin h0
    go_enter Tryz.func46, Tryz.ntmps46
    go_wp2_with fail
    go_ret
    exact ⟨rfl, HI.out, RChg.refl _ _ _⟩
   ·have hb0 : decide (i < 0) = false := by rw [decide_eq_false_iff_not]; exact h0
    have hb1 : decide (i ≥ (E.l.length : Int)) = true := by rw [decide_eq_true_eq]; omega
    clear hin h0
    go_enter Tryz.func46, Tryz.ntmps46
    go_wp2_with fail
    go_ret
    exact ⟨rfl, HI.out, RChg.refl _ _ _⟩
  case pos =>
   rw [if_neg (fun x => x hin)]
   obtain ⟨k, rfl⟩ : ∃ k : Nat, i = k := ⟨i.toNat, by omega⟩
   have hk : k < E.l.length := by omega
   have hb0 : decide ((k : Int) < 0) = false := by rw [decide_eq_false_iff_not]; omega
   have hb1 : decide ((k : Int) ≥ (E.l.length : Int)) = false := by rw [decide_eq_false_iff_not]; omega
   clear hin
   by_cases h64 : b.length = 64
   case neg =>
    rw [if_pos h64]
    have hb2 : ((b.length : Int) != 64) = true := by rw [bne_iff_ne]; omega
    clear h64
    go_enter Tryz.func46, Tryz.ntmps46
    go_wp2_with fail
    go_ret
    exact ⟨rfl, HI.out, RChg.refl _ _ _⟩
   case pos =>
    rw [if_neg (fun x => x h64)]
    have hb2 : ((b.length : Int) != 64) = false := by rw [bne_eq_false_iff_eq]; omega
    have H64 := Lh h64
    obtain ⟨⟨E1, fl⟩, hE1⟩ : ∃ x, E.falls = x := ⟨_, rfl⟩
    rw [hE1] at HF hlenF ⊢
    simp only at HF hlenF ⊢
    clear h64 hE1
    cases fl with
    | true =>
     rw [if_pos rfl]
     go_enter Tryz.func46, Tryz.ntmps46
     go_wp2_with fail
     refine HF.out.mono ?_
     rintro e w2 ⟨rfl, hI, hg⟩
     have HI2 := Lh hI
     have HG2 := Lh hg
     clear hI hg
     go_wp2_with fail
     go_ret
     exact ⟨rfl, HI2.out, HG2.out⟩
    | false =>
     rw [if_neg (by simp)]
     go_enter Tryz.func46, Tryz.ntmps46
     go_wp2_with fail
     refine HF.out.mono ?_
     rintro e u ⟨rfl, hI, hg⟩
     clear k0 k1 k2 k3 z1
     obtain ⟨cap, A3, c3, k0, k1, k2, k3, fp, fq, z1, _⟩ := hI.cells
     have f9 := fq (k * 2 + 1)
     obtain ⟨⟨f, c⟩, hf⟩ : ∃ x, E1.l[k]? = some x := ⟨_, List.getElem?_eq_getElem (by omega)⟩
     obtain ⟨⟨v1, r1, s1⟩, ⟨v2, r2, s2⟩⟩ := hI.row hf
     have hne := hI.ne
     have HI2 := Lh hI
     have HG2 := Lh hg
     have HFc := Lh hf
     have HRb := Lh (HS.out u hg)
     have hk1 : k < E1.l.length := by omega
     clear hI hg fp fq hf s1 s2 HF HS HI
     go_wp2_with fail
     refine wp_region_held_drew (S := fun W => Chg (fun x => x = q) u W) (by kernel_rfl) ((Chg.refl _ _).drew) (fun hHeld => ?_)
     clear hHeld
     refine hp 0 31 (.pointer (some ⟨p, 0, none⟩)) rfl ((Chg.refl _ _).drew) ?_
     refine hp 1 32 (.pointer (some ⟨p, 0, none⟩)) rfl ((Chg.refl _ _).drew) ?_
     refine hp 2 33 (.pointer (some ⟨p, 0, none⟩)) rfl ((Chg.refl _ _).drew) ?_
     refine hp 3 34 (.slice (some ⟨q, 0, none⟩) E1.l.length cap) rfl ((Chg.refl _ _).drew) ?_ (he := (fun W hW => by have hq := hW.cell_some k0 (fun e => hne e); go_simp))
     refine hp 4 35 (.int .i64 k) rfl ((Chg.refl _ _).drew) ?_
     refine hp 5 36 (.slice A b.length cb) rfl ((Chg.refl _ _).drew) ?_
     refine h1o 6 rfl ?_
     intro K hK
     go_simp
     go_at_call 54
     refine (rCopy A b cb u.drew (HRb.out.non (Chg.refl _ _).drew) hb).mono ?_
     rintro e u3 ⟨A2, c2, rfl, g1, g2, g3, g4⟩
     have HU : Hid (Chg Non u u3) := Lh (((Chg.refl Non _).drew).then_non g4)
     obtain ⟨b2, o2, rfl, _⟩ := g3.rd.at_ (by rw [H64.out]; omega)
     have HSV : Hid (SecV B u3 (.slice (some ⟨b2, o2, none⟩) b.length c2) b) := Lh ⟨b2, o2, c2, by rw [H64.out], by rw [← H64.out]; exact g1, g2, g3.mono (by show B ≤ u.heap.size; have := HI2.out.ge.1; have := HI2.out.lt.1; omega), H64.out⟩
     clear g1 g2 g3 g4
     refine hK.out _ _ HU.out.of_non (fun _ => ?_)
     clear hK K
     refine hp 7 38 (.pointer (some ⟨q, k * 2, none⟩)) rfl HU.out.of_non ?_
     refine hp 8 39 (.pointer (some ⟨q, k * 2 + 1, none⟩)) rfl HU.out.of_non ?_
     have HI3 := Lh ((HI2.out.non HU.out).setCa k f (some b) c HFc.out _ HSV.out)
     have HG3 : Hid (RChg p q w (u3.setCell ⟨q, k * 2 + 1, none⟩ (.slice (some ⟨b2, o2, none⟩) b.length c2))) := Lh (rs_q (HG2.out.then_non HU.out) (HI2.out.non HU.out) (by omega))
     have r2' := HU.out.cell_some r2 (fun e => e)
     have f9' := (HU.out.frozen (lt_of_cell r2) (fun e => e)).trans f9
     refine h1o 9 rfl ?_
     intro K hK
     go_simp
     refine hK.out _ _ (Chg.setCell (S := fun x => x = q) HU.out.of_non (p := ⟨q, k * 2 + 1, none⟩) (.inl rfl) _) (fun _ => ?_)
     clear hK K
     refine hdn ?_ _
     go_wp2_with fail
     go_ret
     have hgd : E1.l.getD k ([], none) = (f, c) := by rw [List.getD_eq_getElem?_getD, HFc.out]; rfl
     simp only [Int.toNat_natCast, hgd]
     exact ⟨rfl, HI3.out, HG3.out⟩
theorem rFlush (B p q : Nat) (E : Rk) (w : World) (h : IsRk B p q w E) (hz : E.Sz) :
  Calls Tryz.prog 47 #[.pointer (some ⟨p, 0, none⟩)] w fun e w' => e = .returned (.int .i64 E.flush.2) ∧ IsRk B p q w' E.flush.1 ∧ RChg p q w w' := by
 obtain ⟨cap, A3, c3, k0, k1, k2, k3, fp, fq, z1, _⟩ := h.cells
 have HI := Lh h
 have HF := Lh (rFalls B p q E w h hz)
 have hlenF := rlen_falls E
 have hlen := hz.len
 unfold Rk.flush
 obtain ⟨d, hd⟩ : ∃ d, E.down = d := ⟨_, rfl⟩
 rw [hd] at k1 ⊢
 clear fp fq h hd hz
 cases d with
 | true =>
  rw [if_pos rfl]
  go_enter Tryz.func47, Tryz.ntmps47
  go_wp2_with fail
  go_ret
  exact ⟨rfl, HI.out, RChg.refl _ _ _⟩
 | false =>
  rw [if_neg (by simp)]
  obtain ⟨⟨E1, fl⟩, hE1⟩ : ∃ x, E.falls = x := ⟨_, rfl⟩
  rw [hE1] at HF hlenF ⊢
  simp only at HF hlenF ⊢
  clear hE1
  cases fl with
  | true =>
   rw [if_pos rfl]
   go_enter Tryz.func47, Tryz.ntmps47
   go_wp2_with fail
   refine HF.out.mono ?_
   rintro e w2 ⟨rfl, hI, hg⟩
   have HI2 := Lh hI
   have HG2 := Lh hg
   clear hI hg
   go_wp2_with fail
   go_ret
   exact ⟨rfl, HI2.out, HG2.out⟩
  | false =>
   rw [if_neg (by simp)]
   have FA := fun k f c (h : E1.l[k]? = some (f, c)) => flush_at h
   have hXl := flushL_len E1.l
   obtain ⟨X, hX⟩ : ∃ X, Rk.flushL E1.l = X := ⟨_, rfl⟩
   rw [hX] at hXl ⊢
   simp only [hX] at FA
   have HFA := Lh FA
   have HXL := Lh hXl
   clear FA hX hXl
   have hnil : ∀ W a n c, (binOp .neq 29 (.slice a n c) (.slice none 0 0)).run Tryz.prog W = .ok (.bool (!a.isNone)) W := nil_neq
   go_enter Tryz.func47, Tryz.ntmps47
   go_wp2_with fail
   refine HF.out.mono ?_
   rintro e u ⟨rfl, hI, hg⟩
   have HI2 := Lh hI
   have HG2 := Lh hg
   clear hI hg k0 k1 k2 k3 z1 HF HI
   go_wp2_with fail
   go_loopw [3] (fun iv wr => ∃ k : Nat, k ≤ E1.l.length ∧ iv = .int .i64 k ∧ IsRk B p q wr { E1 with l := mid X E1.l k } ∧ RChg p q w wr) (fun iv _ => E1.l.length - (intOf iv).toNat)
   case atStart => exact ⟨0, by omega, rfl, by rw [mid_zero]; exact HI2.out, HG2.out⟩
   case round =>
    obtain ⟨k, hk, rfl, hI, hC⟩ := hrel
    have hlen := mid_len HXL.out k
    have hne := hI.ne
    obtain ⟨cap, A3, c3, k0, k1, k2, k3, fp, fq, z1, z2, z3, z4, z5⟩ := hI.cells
    simp only [hlen] at k0 z1
    have HI := Lh hI
    have HC := Lh hC
    by_cases hlt : k < E1.l.length
    ·have hltd : decide ((k : Int) < (E1.l.length : Int)) = true := by simpa using hlt
     obtain ⟨⟨f, c0⟩, hf⟩ : ∃ x, E1.l[k]? = some x := ⟨_, List.getElem?_eq_getElem hlt⟩
     have hfm : (mid X E1.l k)[k]? = some (f, c0) := by rw [mid_at HXL.out]; exact hf
     obtain ⟨⟨v1, r1, s1⟩, ⟨v2, r2, s2⟩⟩ := hI.row hfm
     have HF := Lh hf
     have HFM := Lh hfm
     have f8 := fq (k * 2)
     have f9 := fq (k * 2 + 1)
     clear hI hC z2 z3 z4 z5 hf hfm hlen s1 fp fq
     cases c0 with
     | none =>
      have s2 : v2 = .slice none 0 0 := s2
      subst s2
      go_wp2_with fail
      case roundEnd =>
       refine ⟨⟨k + 1, by omega, by simp, ?_, HC.out⟩, by simp [intOf]; omega⟩
       rw [mid_same HXL.out (HFA.out k f none HF.out) HF.out]
       exact HI.out
     | some c =>
      obtain ⟨b, o, kk, rfl, g1, g2, g3, g4⟩ := s2
      have HSV : Hid (SecV B wr (.slice (some ⟨b, o, none⟩) 64 kk) c) := Lh ⟨b, o, kk, rfl, g1, g2, g3, g4⟩
      clear g1 g2 g3 g4
      have hk2 : k * 2 + 1 < (mid X E1.l k).length * 2 := by rw [mid_len HXL.out]; omega
      have HXk := Lh (HFA.out k f (some c) HF.out)
      go_wp2_with fail
      refine wp_region_still_tail 14 (by kernel_rfl) (by kernel_rfl) ?_
      simp only [List.take_succ_cons, List.take_zero, List.drop_succ_cons, List.drop_zero]
      change wpStill _ _ wr.drew (fun a' => wpList _ _ _ _ a' wr.drew) _ _
      have hgd : Chg Non wr wr.drew := (Chg.refl _ _).drew
      have HI4 := Lh (HI.out.non hgd)
      have HC4 := Lh (HC.out.then_non hgd)
      have HSV4 := Lh (HSV.out.keep hgd (fun _ e => e.elim))
      have k0 := hgd.cell_some k0 (fun e => e)
      have f8 := (hgd.frozen (lt_of_cell r1) (fun e => e)).trans f8
      have f9 := (hgd.frozen (lt_of_cell r2) (fun e => e)).trans f9
      have r1 := hgd.cell_some r1 (fun e => e)
      have r2 := hgd.cell_some r2 (fun e => e)
      clear k1 k2 k3
      generalize wr.drew = w2 at *
      iterate 14 still_step
      refine wpStill_nil ?_
      have HC5 := Lh (rs_q (p := p) (q := q) (j := k * 2) (v := .slice (some ⟨b, o, none⟩) 64 kk) HC4.out HI4.out (by show k * 2 < (mid X E1.l k).length * 2; omega))
      have HI5 := Lh (HI4.out.setFl k c f (some c) HFM.out _ HSV4.out)
      have HI6 := Lh (HI5.out.setCa k c none (some c) (by show ((mid X E1.l k).set k (c, some c))[k]? = _; rw [List.getElem?_set_self (by rw [mid_len HXL.out]; exact hlt)]) (.slice none 0 0) rfl)
      have HC6 := Lh (rs_q (p := p) (q := q) (j := k * 2 + 1) (v := .slice none 0 0) HC5.out HI5.out (by show k * 2 + 1 < ((mid X E1.l k).set k (c, some c)).length * 2; rw [List.length_set]; exact hk2))
      go_wp2_with fail
      case roundEnd =>
       refine ⟨⟨k + 1, by omega, by simp, ?_, HC6.out⟩, by simp [intOf]; omega⟩
       have h := HI6.out
       have h2 : (mid X E1.l k).set k (c, none) = mid X E1.l (k + 1) := (mid_step HXL.out HXk.out).symm
       simp only [List.set_set, h2] at h
       exact h
    ·obtain rfl : k = E1.l.length := by omega
     have hltd : decide ((E1.l.length : Int) < (E1.l.length : Int)) = false := by simp
     have HI3 : Hid (IsRk B p q wr { E1 with l := X }) := Lh (by have := HI.out; rwa [mid_all HXL.out] at this)
     clear fp fq hI hC z2 z3 z4 z5 hlen
     go_wp2_with fail
     go_ret
     exact ⟨rfl, HI3.out, HC.out⟩
end
end Go.Proofs.YtkgnlobabknkcaaGreat
