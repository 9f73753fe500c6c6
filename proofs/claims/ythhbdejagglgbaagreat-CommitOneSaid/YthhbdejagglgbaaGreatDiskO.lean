/- Walks of the disk: fall, operate, Write, Flush, Crash. -/
import Derived.Test.YthhbdejagglgbaaGreatDiskQ
namespace Go.Proofs.YthhbdejagglgbaaGreat
open Go.RowKit
set_option linter.unusedVariables false

set_option maxRecDepth 100000 in
set_option maxHeartbeats 2000000 in
theorem fall_any (pd ps pm : Nat) (D : Dk) (B : Option Addr) (m : List UInt8) (cm : Nat) (w : World) (h : IsD w pd ps pm D) (hBm : Rd w B m) (hBn : ∀ b o, B = some ⟨b, o, none⟩ → m ≠ [] → ¬ DS pd ps pm b) (hml : m.length ≤ 1000000) :
    Calls Tryz.prog 66 #[.pointer (some ⟨pd, 0, none⟩), .slice B m.length cm] w fun e w' => e = .returned (.tuple #[]) ∧ IsD w' pd ps pm (D.fall m) ∧ Chg (DS pd ps pm) w w' := by
  have hlt := h.lt
  have HSp := Lib.hid (spill_fall pd ps pm w.heap.size D B m cm (w.alloc (.cells #[.slice B m.length cm] 29)) (h.non ((Chg.refl _ _).alloc _)) (by simp only [World.cell?]; rw [heap_alloc_new]; rfl) (hBm.non ((Chg.refl _ _).alloc _))
    (by rintro (e | e | e) <;> omega) hBn hml)
  clear h hBm
  go_enter Tryz.func66, Tryz.ntmps66
  go_wp2_with fail
  refine HSp.out.mono ?_
  rintro e w1 ⟨rfl, h1, hg1⟩
  obtain ⟨A, c, k0, _, _, k3, k4, _⟩ := h1.cells
  have f0 := h1.free 0
  have f3 := h1.free 3
  have f4 := h1.free 4
  have H1 := Lib.hid h1
  clear h1
  go_wp2
  go_end0
  have hD := H1.out
  have hok := hD.1
  have s1 := hD.set 0 (.bool false) (D' := { D.spill (Dk.bit m) with up := false }) rfl rfl rfl ⟨hok.secs, hok.keys, hok.nodup, hok.most, hok.left0⟩ (fun A c => rfl)
  have s2 := s1.set 3 (.int .i64 0) (D' := { D.spill (Dk.bit m) with up := false, left := 0 }) rfl rfl rfl ⟨hok.secs, hok.keys, hok.nodup, hok.most, Int.le_refl _⟩ (fun A c => rfl)
  have s3 := s2.setStay (A1 := none) (l := []) (c1 := 0) (Rd.nil _ _) (fun b o e => by cases e) (Nat.le_refl _) (by simp)
  exact ⟨rfl, s3, (((((Chg.refl Non w).alloc _).non_then hg1).trans_same chg_field).trans_same chg_field).trans_same chg_field⟩

theorem stay_out {w : World} {pd ps pm : Nat} {D : Dk} (h : IsD w pd ps pm D) : ∃ A c, w.cell? ⟨pd, 4, none⟩ = some (.slice A D.stay.length c) ∧ Rd w A D.stay ∧ ∀ b o, A = some ⟨b, o, none⟩ → D.stay ≠ [] → ¬ DS pd ps pm b := by
  obtain ⟨hok, A, c, h1, h2, h3, h4, h5, h6, h7⟩ := h
  refine ⟨A, c, by rw [cell_of_row _ _ _ _ _ _ h1]; rfl, h4, ?_⟩
  intro b o e hne
  have := stay_ne h1 h3 h4 b o e hne
  rintro (e' | e' | e')
  · exact this.1 e'
  · exact h5 b o e hne e'
  · exact this.2 e'

set_option maxRecDepth 100000 in
set_option maxHeartbeats 2000000 in
theorem operate_falls (pd ps pm : Nat) (D : Dk) (fv : Value) (w : World) (h : IsD w pd ps pm D) (hl : D.left = 1) (hml : D.stay.length ≤ 1000000) :
    Calls Tryz.prog 34 #[.pointer (some ⟨pd, 0, none⟩), fv] w fun e w' => e = .returned (.int .i64 60) ∧ IsD w' pd ps pm (D.fall D.stay) ∧ Chg (DS pd ps pm) w w' := by
  obtain ⟨A, c, k4, hrd, hst⟩ := stay_out h
  obtain ⟨_, _, _, _, _, k3, _⟩ := h.cells
  rw [hl] at k3
  have HF := Lib.hid (fall_any pd ps pm D A D.stay c w h hrd hst hml)
  clear h hrd hst hl
  go_enter Tryz.func34, Tryz.ntmps34
  go_wp2_with fail
  refine HF.out.mono ?_
  rintro e w1 ⟨rfl, h1, hg1⟩
  go_wp2
  go_ret
  exact ⟨rfl, h1, hg1⟩

theorem wpStill_load_sec {w : World} {ops : Array Oper} {rest : List Oper} {op : Oper} {a : Act} {Q : Act → Prop} (hgd : op.guard = none) (x : Operand) (ho : op.op = .load 78 x)
    (b o : Nat) (hx : a.eval x = .pointer (some ⟨b, o, none⟩)) (l : List UInt8) (hc : w.rangeAt b o (l.map bv)) (hl : l.length = 64)
    (h : wpStill Tryz.prog ops w Q rest (a.put op.dst (.agg (secA l)))) : wpStill Tryz.prog ops w Q (op :: rest) a := by
  refine wpStill_step (fun K hK => ?_)
  have hw : Region.wanted op (yielded ops a.tmps) = true := by simp [Region.wanted, hgd]
  rw [if_pos hw]
  have hrun := run_loadVar_mid (P := Tryz.prog) w b o 78 (l.map bv) _ hc Tryz.underlying78 rfl (by rw [List.length_map, hl]; exact info_sec)
  unfold Oper.still execOp
  simp only [ho, hx, Instr.loadAt, Instr.sureAddr, Sem.run_bind, Sem.run_pure, Result.andThen_ok, hrun]
  exact ⟨rfl, hK _ h⟩

theorem upd_ok {m : List (Nat × List UInt8)} {i N : Nat} {l : List UInt8} (hn : (m.map (·.1)).Nodup) (hk : ∀ p ∈ m, p.1 < N ∧ p.2.length = 64) (hi : i < N) (hl : l.length = 64) :
    ((upd m i l).map (·.1)).Nodup ∧ ∀ p ∈ upd m i l, p.1 < N ∧ p.2.length = 64 := by
  by_cases hx : ∃ p ∈ m, p.1 = i
  · obtain ⟨p, hp, rfl⟩ := hx
    obtain ⟨j, hj⟩ := List.getElem?_of_mem hp
    rw [upd_some hn hj rfl]
    refine ⟨?_, ?_⟩
    · have : (m.set j (p.1, l)).map (·.1) = m.map (·.1) := by
        apply List.ext_getElem?
        intro k
        rw [List.getElem?_map, List.getElem?_map, List.getElem?_set]
        by_cases hkj : j = k
        · subst hkj
          have hjl : j < m.length := (List.getElem?_eq_some_iff.1 hj).1
          obtain ⟨_, hmj⟩ := List.getElem?_eq_some_iff.1 hj
          simp [hjl, hmj]
        · simp [hkj]
      rw [this]; exact hn
    · intro q hq
      rcases List.mem_or_eq_of_mem_set hq with hq | rfl
      · exact hk q hq
      · exact ⟨hi, hl⟩
  · have hx' : ∀ p ∈ m, p.1 ≠ i := fun p hp e => hx ⟨p, hp, e⟩
    rw [upd_none hx']
    refine ⟨?_, ?_⟩
    · rw [List.map_append]
      refine List.nodup_append.2 ⟨hn, by simp, ?_⟩
      rintro a ha b hb rfl
      simp only [List.map_cons, List.map_nil, List.mem_singleton] at hb
      obtain ⟨p, hp, rfl⟩ := List.mem_map.1 ha
      exact hx' p hp hb
    · intro q hq
      rcases List.mem_append.1 hq with hq | hq
      · exact hk q hq
      · rw [List.mem_singleton.1 hq]; exact ⟨hi, hl⟩

theorem IsD.setCache {w W : World} {pd ps pm : Nat} {D : Dk} (h : IsD w pd ps pm D) (i : Nat) (hi : i < D.sec.length) (l : List UInt8) (hl : l.length = 64) (hm : MapIs W pm (upd D.cache i l)) (hg : Chg (fun x => x = pm) w W) : IsD W pd ps pm { D with cache := upd D.cache i l } := by
  have hne := h.ne
  obtain ⟨hok, A, c, h1, h2, h3, h4, h5, h6, h7⟩ := h
  have hu := upd_ok hok.nodup hok.keys hi hl
  refine ⟨⟨hok.secs, hu.2, hu.1, hok.most, hok.left0⟩, A, c, ?_, ?_, hm, h4.keep hg (fun b o e hne' => (stay_ne h1 h3 h4 b o e hne').2), h5, h6, h7⟩
  · exact (hg.block pd (Array.getElem?_eq_some_iff.1 h1).1 hne.2.1).trans h1
  · exact (hg.block ps (Array.getElem?_eq_some_iff.1 h2).1 hne.2.2).trans h2

set_option maxRecDepth 100000 in
set_option maxHeartbeats 2000000 in
theorem Write1_any (pd ps pm p3 p4 p5 i c : Nat) (D : Dk) (B : Option Addr) (l : List UInt8) (w : World) (h : IsD w pd ps pm D) (h3 : w.cell? ⟨p3, 0, none⟩ = some (.pointer (some ⟨pd, 0, none⟩))) (h4 : w.cell? ⟨p4, 0, none⟩ = some (.int .i64 (i : Int)))
    (h5 : w.cell? ⟨p5, 0, none⟩ = some (.slice B 64 c)) (hr : Rd w B l) (hl : l.length = 64) (hi : i < D.sec.length) :
    Calls Tryz.prog 35 #[.pointer (some ⟨p5, 0, none⟩), .pointer (some ⟨p3, 0, none⟩), .pointer (some ⟨p4, 0, none⟩)] w fun e w' => e = .returned (.tuple #[]) ∧ IsD w' pd ps pm { D with cache := upd D.cache i l } ∧ Chg (DS pd ps pm) w w' := by
  have hok := h.1
  obtain ⟨b, o, rfl, hbl, hcell⟩ := hr.at_ (by omega)
  have hrg : w.rangeAt b o (l.map bv) := by
    intro j v hv
    rw [List.getElem?_map] at hv
    obtain ⟨x, hx, rfl⟩ := Option.map_eq_some_iff.1 hv
    obtain ⟨hj, rfl⟩ := List.getElem?_eq_some_iff.1 hx
    exact hcell j hj
  have HL := Lib.hid hl
  clear hcell hl hr
  have hd1 : IsD w.drew pd ps pm D := h.non (Chg.refl _ _).drew
  have k3 : w.drew.cell? ⟨p3, 0, none⟩ = some (.pointer (some ⟨pd, 0, none⟩)) := h3
  have k4 : w.drew.cell? ⟨p4, 0, none⟩ = some (.int .i64 (i : Int)) := h4
  have k5 : w.drew.cell? ⟨p5, 0, none⟩ = some (.slice (some ⟨b, o, none⟩) 64 c) := h5
  have hrg' : w.drew.rangeAt b o (l.map bv) := hrg
  have hgd : Chg (DS pd ps pm) w w.drew := (Chg.refl _ _).drew
  clear h h3 h4 h5 hrg
  go_enter Tryz.func35, Tryz.ntmps35
  go_wp2_with fail
  refine wp_region_still_tail 8 (by kernel_rfl) (by kernel_rfl) ?_
  simp only [List.take_succ_cons, List.take_zero, List.drop_succ_cons, List.drop_zero]
  change wpStill _ _ w.drew (fun a' => wpList _ _ _ _ a' w.drew) _ _
  generalize w.drew = w2 at hd1 k3 k4 k5 hrg' hgd ⊢
  obtain ⟨A2, c2, _, _, k2, _⟩ := hd1.cells
  obtain ⟨W, hrun, hmW, hgW⟩ := run_update hd1.2.choose_spec.choose_spec.2.2.1 (fun p hp => by have := (hok.keys p hp).1; have := hok.most; omega) i (by have := hok.most; omega) l
  replace hrun : (Instr.mapUpdate 28 (.map (some pm)) (.int .i64 (i : Int)) (.agg (secA l))).run Tryz.prog w2 = .ok () W := hrun
  have HDW := Lib.hid (hd1.setCache i hi l HL.out hmW hgW)
  have HRg := Lib.hid hrg'
  have hgW2 : Chg (DS pd ps pm) w W := hgd.trans_same (hgW.mono (fun x e => .inr (.inr e)))
  clear hmW hgW hd1 hrg'
  have harr : (Instr.arrayAt 78 (.slice (some ⟨b, o, none⟩) 64 c)).run Tryz.prog w2 = .ok (.pointer (some ⟨b, o, none⟩)) w2 := run_arrayAt w2 _ _ 64 _ 64 c Tryz.underlying78 (Nat.le_refl _)
  iterate 7 still_step
  refine wpStill_load_sec rfl (.tmp 9) rfl b o rfl l HRg.out HL.out ?_
  refine wpStill_nil ?_
  go_wp2
  go_end0
  exact ⟨rfl, HDW.out, hgW2⟩

theorem IsD.left_set {w : World} {pd ps pm : Nat} {D : Dk} (h : IsD w pd ps pm D) (n : Int) (hn : 0 ≤ n) : IsD (w.setCell ⟨pd, 3, none⟩ (.int .i64 n)) pd ps pm { D with left := n } := by
  have hok := h.1
  exact h.set 3 (.int .i64 n) (D' := { D with left := n }) rfl rfl rfl ⟨hok.secs, hok.keys, hok.nodup, hok.most, hn⟩ (fun A c => rfl)

set_option maxRecDepth 100000 in
set_option maxHeartbeats 2000000 in
/-- operate, where it does not crash; Q: what the operation makes -/
theorem operate_goes (pd ps pm : Nat) (D D2 : Dk) (f : FuncId) (cap : Array Value) (w : World) (h : IsD w pd ps pm D) (hl : D.left ≠ 1) (hlm : D.left ≤ 9223372036854775807)
    (fv : Value) (hfv : fv = .func (.func 35) #[] cap ∧ f = 35 ∨ fv = .func (.func 63) #[] cap ∧ f = 63)
    (hdo : ∀ W, IsD W pd ps pm { D with left := max (D.left - 1) 0 } → Chg (fun k => k = pd) w W → Calls Tryz.prog f cap W fun e w' => e = .returned (.tuple #[]) ∧ IsD w' pd ps pm D2 ∧ Chg (DS pd ps pm) W w') :
    Calls Tryz.prog 34 #[.pointer (some ⟨pd, 0, none⟩), fv] w fun e w' => e = .returned (.int .i64 0) ∧ IsD w' pd ps pm D2 ∧ Chg (DS pd ps pm) w w' := by
  obtain ⟨_, _, _, _, _, k3, _⟩ := h.cells
  have f3 := h.free 3
  have h0 := h.1.left0
  have hL := Lib.hid (hdo _ (h.left_set (max (D.left - 1) 0) (by omega)) ((Chg.refl (fun k => k = pd) _).setCell (p := ⟨pd, 3, none⟩) (.inl rfl) _))
  clear hdo h
  obtain ⟨n, hn⟩ : ∃ n, D.left = n := ⟨_, rfl⟩
  rw [hn] at hl hlm k3 h0 hL
  clear hn
  have hd : (n == 1) = false := by simpa using hl
  have hmx : max (n - 1) 0 = max (n - 1) 0 := rfl
  rcases hfv with ⟨rfl, rfl⟩ | ⟨rfl, rfl⟩
  all_goals
    go_enter Tryz.func34, Tryz.ntmps34
    go_wp2_with fail
    refine hL.out.mono ?_
    rintro e w1 ⟨rfl, h1, hg⟩
    go_wp2
    go_ret
    exact ⟨rfl, h1, chg_field.trans_same hg⟩

/-- sizes that a disk keeps to -/
structure Dk.Sz (D : Dk) : Prop where
  stay : D.stay.length ≤ 1000000
  left : D.left ≤ 9223372036854775807

set_option maxRecDepth 100000 in
set_option maxHeartbeats 2000000 in
theorem Write_any (pd ps pm : Nat) (D : Dk) (i : Int) (B : Option Addr) (l : List UInt8) (c : Nat) (w : World) (h : IsD w pd ps pm D) (hsz : D.Sz) (hr : Rd w B l) (hBn : ∀ b o, B = some ⟨b, o, none⟩ → l ≠ [] → b ≠ pd) :
    Calls Tryz.prog 16 #[.pointer (some ⟨pd, 0, none⟩), .int .i64 i, .slice B l.length c] w fun e w' => e = .returned (.int .i64 (D.write i l).2) ∧ IsD w' pd ps pm (D.write i l).1 ∧ Chg (DS pd ps pm) w w' := by
  have hlt := h.lt
  -- the boxes
  have hb0 : ∀ o o' : Obj, (((w.alloc (.cells #[.pointer (some ⟨pd, 0, none⟩)] 26)).alloc o).alloc o').heap[w.heap.size]? = some (.cells #[.pointer (some ⟨pd, 0, none⟩)] 26 (0, 0)) := fun o o' => by
    rw [Below.heap_alloc _ o' _ (by simp; omega)]; exact heap_alloc2_old w _ o
  obtain ⟨W0, hW0⟩ : ∃ W0, ((w.alloc (.cells #[.pointer (some ⟨pd, 0, none⟩)] 26)).alloc (.cells #[.int .i64 i] 3)).alloc (.cells #[.slice B l.length c] 29) = W0 := ⟨_, rfl⟩
  have hg0 : Chg Non w W0 := by rw [← hW0]; exact (((Chg.refl _ _).alloc _).alloc _).alloc _
  have hs0 : W0.heap.size = w.heap.size + 3 := by rw [← hW0]; simp
  have x0 : W0.cell? ⟨w.heap.size, 0, none⟩ = some (.pointer (some ⟨pd, 0, none⟩)) := by rw [← hW0, cell_of_row _ _ _ _ _ _ (hb0 _ _)]; rfl
  have x1 : W0.cell? ⟨w.heap.size + 1, 0, none⟩ = some (.int .i64 i) := by
    rw [← hW0, cell_of_row _ _ _ #[.int .i64 i] 3 (0, 0) (by rw [Below.heap_alloc _ _ _ (by simp)]; exact heap_alloc2_new w _ _)]; rfl
  have x2 : W0.cell? ⟨w.heap.size + 1 + 1, 0, none⟩ = some (.slice B l.length c) := by
    rw [← hW0, cell_of_row _ _ _ #[.slice B l.length c] 29 (0, 0) (by
      have := heap_alloc_new ((w.alloc (.cells #[.pointer (some ⟨pd, 0, none⟩)] 26)).alloc (.cells #[.int .i64 i] 3)) (.cells #[.slice B l.length c] 29)
      simpa using this)]
    rfl
  have h0 := h.non hg0
  have hr0 := hr.non hg0
  have hrd := ready_ok pd ps pm D W0 h0
  have hhas := has_ok pd ps pm D i W0 h0
  have HW0 := Lib.hid hW0
  clear hW0 hb0 h hr
  unfold Dk.write
  cases hup : D.up with
  | false =>
    have hr1 : D.ready = 60 := by unfold Dk.ready; rw [hup]; rfl
    rw [hr1] at hrd
    have HR := Lib.hid hrd
    have H0 := Lib.hid h0
    clear hrd hhas hr1 h0 hup
    simp only [if_true]
    go_enter Tryz.func16, Tryz.ntmps16
    go_wp2_with fail
    rw [HW0.out]
    refine HR.out.mono ?_
    rintro e w' ⟨rfl, rfl⟩
    go_wp2
    go_ret
    exact ⟨rfl, H0.out, hg0.of_non⟩
  | true =>
    have hr1 : D.ready = 0 := by unfold Dk.ready; rw [hup]; rfl
    rw [hr1] at hrd
    have HR := Lib.hid hrd
    have H0 := Lib.hid h0
    clear hrd hr1 h0 hup
    simp only [Bool.true_eq_false, if_false]
    by_cases hin : 0 ≤ i ∧ i < D.sec.length
    · rw [decide_eq_true hin] at hhas
      have HH := Lib.hid hhas
      simp only [hin, and_self, not_true_eq_false, if_false]
      clear hhas
      by_cases h64 : l.length = 64
      · rw [if_neg (show ¬ l.length ≠ 64 from fun h => h h64)]
        have hl64 : ((l.length : Int) != 64) = false := by simp; omega
        obtain ⟨k, rfl⟩ : ∃ k : Nat, i = k := ⟨i.toNat, by omega⟩
        have hk : k < D.sec.length := by omega
        simp only [Int.toNat_natCast]
        have H64 := Lib.hid h64
        clear h64 hin
        unfold Dk.operate
        by_cases hle : D.left = 1
        · simp only [hle, if_true]
          have HO := Lib.hid (fun fv => operate_falls pd ps pm D fv W0 H0.out hle hsz.stay)
          clear hle
          go_enter Tryz.func16, Tryz.ntmps16
          go_wp2_with fail
          rw [HW0.out]
          refine HR.out.mono ?_
          rintro e w' ⟨rfl, rfl⟩
          go_wp2_with fail
          refine HH.out.mono ?_
          rintro e w' ⟨rfl, rfl⟩
          go_wp2_with fail
          refine (HO.out _).mono ?_
          rintro e w1 ⟨rfl, h1, hg1⟩
          go_wp2
          go_ret
          exact ⟨rfl, h1, hg0.non_then hg1⟩
        · simp only [hle, if_false]
          have HO := Lib.hid (operate_goes pd ps pm D { D with left := max (D.left - 1) 0, cache := upd D.cache k l } 35 #[.pointer (some ⟨w.heap.size + 1 + 1, 0, none⟩), .pointer (some ⟨w.heap.size, 0, none⟩), .pointer (some ⟨w.heap.size + 1, 0, none⟩)] W0 H0.out hle hsz.left
            (.func (.func 35) #[] #[.pointer (some ⟨w.heap.size + 1 + 1, 0, none⟩), .pointer (some ⟨w.heap.size, 0, none⟩), .pointer (some ⟨w.heap.size + 1, 0, none⟩)]) (.inl ⟨rfl, rfl⟩)
            (fun W hW hgW => Write1_any pd ps pm w.heap.size (w.heap.size + 1) (w.heap.size + 1 + 1) k c { D with left := max (D.left - 1) 0 } B l W hW (hgW.cell_some x0 (by show w.heap.size ≠ pd; omega)) (hgW.cell_some x1 (by show w.heap.size + 1 ≠ pd; omega))
              (hgW.cell_some (by rw [x2, H64.out]) (by show w.heap.size + 1 + 1 ≠ pd; omega)) (hr0.keep hgW hBn) H64.out hk))
          clear hle
          go_enter Tryz.func16, Tryz.ntmps16
          go_wp2_with fail
          rw [HW0.out]
          refine HR.out.mono ?_
          rintro e w' ⟨rfl, rfl⟩
          go_wp2_with fail
          refine HH.out.mono ?_
          rintro e w' ⟨rfl, rfl⟩
          go_wp2_with fail
          refine HO.out.mono ?_
          rintro e w1 ⟨rfl, h1, hg1⟩
          go_wp2
          go_ret
          exact ⟨rfl, h1, hg0.non_then hg1⟩
      · rw [if_pos (show l.length ≠ 64 from h64)]
        have hl64 : ((l.length : Int) != 64) = true := by simp; omega
        clear h64
        go_enter Tryz.func16, Tryz.ntmps16
        go_wp2_with fail
        rw [HW0.out]
        refine HR.out.mono ?_
        rintro e w' ⟨rfl, rfl⟩
        go_wp2_with fail
        refine HH.out.mono ?_
        rintro e w' ⟨rfl, rfl⟩
        go_wp2
        go_ret
        exact ⟨rfl, H0.out, hg0.of_non⟩
    · rw [decide_eq_false hin] at hhas
      have HH := Lib.hid hhas
      simp only [hin, not_false_eq_true, if_true]
      clear hhas
      go_enter Tryz.func16, Tryz.ntmps16
      go_wp2_with fail
      rw [HW0.out]
      refine HR.out.mono ?_
      rintro e w' ⟨rfl, rfl⟩
      go_wp2_with fail
      refine HH.out.mono ?_
      rintro e w' ⟨rfl, rfl⟩
      go_wp2
      go_ret
      exact ⟨rfl, H0.out, hg0.of_non⟩
end Go.Proofs.YthhbdejagglgbaaGreat
