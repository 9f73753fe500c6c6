/- Walks of the disk: all, fall$1, spill. -/
import Derived.Test.YthhbdejagglgbaaGreatDiskS
namespace Go.Proofs.YthhbdejagglgbaaGreat
open Go.RowKit
set_option linter.unusedVariables false

theorem IsD.setSec {w W : World} {pd ps pm : Nat} {D : Dk} (h : IsD w pd ps pm D) (sec : List (List UInt8)) (hl : sec.length = D.sec.length) (hs : ∀ s ∈ sec, s.length = 64)
    (hb : W.heap[ps]? = some (.cells (sec.flatten.map bv).toArray 78 (0, 0))) (hg : Chg (fun x => x = ps) w W) : IsD W pd ps pm { D with sec := sec } := by
  have hne := h.ne
  obtain ⟨hok, A, c, h1, h2, h3, h4, h5, h6, h7⟩ := h
  refine ⟨⟨hs, fun p hp => by show p.1 < sec.length ∧ _; rw [hl]; exact hok.keys p hp, hok.nodup, by show sec.length ≤ 1024; rw [hl]; exact hok.most, hok.left0⟩, A, c, ?_, hb, h3.keep hg (Ne.symm hne.2.2), h4.keep hg h5, h5, h6, h7⟩
  rw [hg.block pd (Array.getElem?_eq_some_iff.1 h1).1 hne.1, h1]
  simp only [dCells, hl]

theorem IsD.clearCache {w W : World} {pd ps pm : Nat} {D : Dk} (h : IsD w pd ps pm D) (hm : MapIs W pm []) (hg : Chg (fun x => x = pm) w W) : IsD W pd ps pm { D with cache := [] } := by
  have hne := h.ne
  obtain ⟨hok, A, c, h1, h2, h3, h4, h5, h6, h7⟩ := h
  refine ⟨⟨hok.secs, fun p hp => (by cases hp), List.nodup_nil, hok.most, hok.left0⟩, A, c, ?_, ?_, hm, h4.keep hg (fun b o e hne' => (stay_ne h1 h3 h4 b o e hne').2), h5, h6, h7⟩
  · exact (hg.block pd (Array.getElem?_eq_some_iff.1 h1).1 hne.2.1).trans h1
  · exact (hg.block ps (Array.getElem?_eq_some_iff.1 h2).1 hne.2.2).trans h2

set_option maxRecDepth 100000 in
set_option maxHeartbeats 2000000 in
theorem all_any (p : Value) (n : Int) (w : World) :
    Calls Tryz.prog 65 #[p, .int .i64 n] w fun e w' => e = .returned (.bool true) ∧ w = w' := by
  go_enter Tryz.func65, Tryz.ntmps65
  go_wp2
  go_ret
  exact ⟨rfl, rfl⟩

set_option maxRecDepth 100000 in
set_option maxHeartbeats 2000000 in
theorem spill_all (pd ps pm : Nat) (D : Dk) (w : World) (h : IsD w pd ps pm D) :
    Calls Tryz.prog 64 #[.pointer (some ⟨pd, 0, none⟩), .func (.func 65) #[.pointer (some ⟨pd, 0, none⟩)] #[]] w fun e w' => e = .returned (.tuple #[]) ∧ IsD w' pd ps pm (D.spill fun _ => true) ∧ Chg (DS pd ps pm) w w' := by
  have hok := h.1
  have hlt := h.lt
  have hne := h.ne
  have HD := Lib.hid h
  have hcl := cache_len hok
  have hdl := dirty_length D.cache
  -- Dirty
  have hdirty : Calls Tryz.prog 99 #[.pointer (some ⟨pd, 0, none⟩)] w fun e w' => ∃ v, e = .returned v ∧ w'.ownsRow w.heap.size 3 1 v (dirty D.cache).length ((dirty D.cache).map fun k : Nat => Value.int .i64 (k : Int)) ∧ Chg Non w w' := by
    obtain ⟨A, c, _, _, h2, _⟩ := h.cells
    have HN := Lib.hid (dnone_ok pd ps pm D w h)
    obtain ⟨_, A', c', _, _, hm, _⟩ := h
    have HS := Lib.hid (sorted_keys pm D.cache w hm (fun p hp => by have := (hok.keys p hp).1; have := hok.most; omega) hcl)
    go_enter Tryz.func99, Tryz.ntmps99
    go_wp2_with fail
    refine HN.out.mono ?_
    rintro e w' ⟨rfl, rfl⟩
    go_wp2_with fail
    refine (keys_in _ _).mono ?_
    rintro e w' ⟨rfl, rfl⟩
    go_wp2_with fail
    refine HS.out.mono ?_
    rintro e w' ⟨v, rfl, hrow, hg⟩
    go_wp2
    go_ret
    exact ⟨v, rfl, hrow, hg⟩
  have HDi := Lib.hid hdirty
  clear hdirty h
  obtain ⟨ks, hks⟩ : ∃ ks, dirty D.cache = ks := ⟨_, rfl⟩
  rw [hks] at HDi hdl
  have HK := Lib.hid hks
  clear hks
  obtain ⟨st, hst⟩ : ∃ st : Nat → Bool, (fun _ => true) = st := ⟨_, rfl⟩
  rw [hst]
  have HSt := Lib.hid hst
  clear hst
  have hnl : ks.length ≤ 1024 := by omega
  have HDl := Lib.hid hdl
  clear hdl
  go_enter Tryz.func64, Tryz.ntmps64
  go_wp2_with fail
  refine HDi.out.mono ?_
  rintro e w1 ⟨v, rfl, hrow, hg1⟩
  obtain ⟨A, cv, rfl, hkeys⟩ : ∃ A cv, v = .slice A ks.length cv ∧ ∀ n (hn : n < ks.length), ∃ g, A = some ⟨g, 0, none⟩ ∧ w.heap.size ≤ g ∧ w1.cell? ⟨g, n, none⟩ = some (.int .i64 (ks[n] : Int)) := by
    rcases hrow.2 with ⟨rfl, h0⟩ | ⟨g, cap, cur, rfl, hg, _⟩
    · exact ⟨none, 0, by rw [h0], fun n hn => absurd hn (by omega)⟩
    · refine ⟨_, cap, rfl, fun n hn => ⟨g, rfl, hg, ?_⟩⟩
      have := hrow.cells (g := g) rfl n (.int .i64 (ks[n] : Int)) (by rw [List.getElem?_map, List.getElem?_eq_getElem hn]; rfl)
      rw [add_plain, Nat.zero_add] at this
      exact this
  have HKeys := Lib.hid hkeys
  clear hkeys hrow
  go_wp2_with fail
  go_loopw [9] (fun i wr => ∃ n : Nat, n ≤ ks.length ∧ i = .int .i64 n ∧ IsD wr pd ps pm { D with sec := D.spillTo st n } ∧ Chg (DS pd ps pm) w1 wr) (fun i _ => ks.length - (intOf i).toNat)
  case atStart => exact ⟨0, Nat.zero_le _, rfl, HD.out.non hg1, Chg.refl _ _⟩
  case round =>
    obtain ⟨n, hn, rfl, hDn, hgn⟩ := hrel
    have HDn := Lib.hid hDn
    clear hDn
    by_cases hlt2 : n < ks.length
    · obtain ⟨g, rfl, hgw, hcell⟩ := HKeys.out n hlt2
      have hcell' := hgn.cell_some hcell (by rintro (e | e | e) <;> simp at e <;> omega)
      clear hcell
      have hk : (dirty D.cache)[n]? = some ks[n] := by rw [HK.out]; exact List.getElem?_eq_getElem hlt2
      obtain ⟨hkl, l, hll, hl64⟩ := dirty_look hok hk
      have hspill : D.spillTo st (n + 1) = if st n then (D.spillTo st n).set ks[n] l else D.spillTo st n := by
        show (match (dirty D.cache)[n]? with | some k => if st n then (D.spillTo st n).set k ((look D.cache k).getD []) else D.spillTo st n | none => D.spillTo st n) = _
        rw [hk]
        simp only [hll, Option.getD_some]
      obtain ⟨k, hkk⟩ : ∃ k, ks[n] = k := ⟨_, rfl⟩
      rw [hkk] at hcell' hk hkl hll hspill
      clear hkk
      have HSp := Lib.hid hspill
      have HL := Lib.hid hll
      have HL64 := Lib.hid hl64
      clear hspill hk hll hl64
      obtain ⟨wo, rfl⟩ : ∃ wo : World, wo = wr := ⟨_, rfl⟩
      have hstn : st n = true := by rw [← HSt.out]
      go_wp2_with fail
      refine (all_any _ _ _).mono ?_
      rintro e w' ⟨rfl, rfl⟩
      go_wp2_with fail
      refine wp_region_still_tail 12 (by kernel_rfl) (by kernel_rfl) ?_
      simp only [List.take_succ_cons, List.take_zero, List.drop_succ_cons, List.drop_zero]
      change wpStill _ _ wo.drew (fun a' => wpList _ _ _ _ a' wo.drew) _ _
      have hd1 : IsD wo.drew pd ps pm { D with sec := D.spillTo st n } := HDn.out.non (Chg.refl _ _).drew
      have hgd : Chg (DS pd ps pm) w1 wo.drew := hgn.drew
      generalize wo.drew = w2 at hd1 hgd ⊢
      obtain ⟨A2, c2, _, k1, k2, _⟩ := hd1.cells
      have hlk := run_lookup hd1.2.choose_spec.choose_spec.2.2.1 (fun p hp => by have := (hok.keys p hp).1; have := hok.most; omega) k (by have := hok.most; omega) w2 rfl false
      simp only [HL.out] at hlk
      have hsl : (D.spillTo st n).length = D.sec.length := (spillTo_ok hok st n).1
      simp only [hsl] at k1
      have H2 := Lib.hid hd1
      have HSL := Lib.hid hsl
      clear hd1 hsl
      repeat still_step
      refine wpStill_nil ?_
      have hok2 := spillTo_ok hok st n
      refine wpList_store_sec rfl (.tmp 28) (.tmp 27) rfl ps k (D.spillTo st n) 78 l rfl rfl H2.out.2.choose_spec.choose_spec.2.1 hok2.2 (by rw [hok2.1]; exact hkl) HL64.out ?_
      intro W hbW hgW
      have hDW : IsD W pd ps pm { D with sec := D.spillTo st (n + 1) } := by
        have e : D.spillTo st (n + 1) = (D.spillTo st n).set k l := by rw [HSp.out, if_pos hstn]
        have ok2 := spillTo_ok hok st (n + 1)
        exact H2.out.setSec (D.spillTo st (n + 1)) (by rw [ok2.1, hok2.1]) ok2.2 (by rw [e]; exact hbW) hgW
      have HDW := Lib.hid hDW
      have hgW2 : Chg (DS pd ps pm) w1 W := hgd.trans_same (hgW.mono (fun x e => .inr (.inl e)))
      clear hbW hgW hDW
      go_wp2
      go_roundw
      case rel => exact ⟨n + 1, by omega, by go_num, HDW.out, hgW2⟩
      case measure => simp [intOf]; omega
    · obtain rfl : n = ks.length := by omega
      obtain ⟨A2, c2, _, _, k2, _⟩ := HDn.out.cells
      obtain ⟨W, hrun, hmW, hgW⟩ := run_clear HDn.out.2.choose_spec.choose_spec.2.2.1
      have hDW : IsD W pd ps pm (D.spill st) := by
        have hsp : D.spill st = { D with sec := D.spillTo st ks.length, cache := [] } := by unfold Dk.spill; rw [HDl.out]
        rw [hsp]
        exact HDn.out.clearCache hmW hgW
      have HDW := Lib.hid hDW
      have hgW2 : Chg (DS pd ps pm) w W := (hg1.non_then hgn).trans_same (hgW.mono (fun x e => .inr (.inr e)))
      clear hmW hgW hDW
      go_wp2
      go_end0
      exact ⟨rfl, HDW.out, hgW2⟩
end Go.Proofs.YthhbdejagglgbaaGreat
