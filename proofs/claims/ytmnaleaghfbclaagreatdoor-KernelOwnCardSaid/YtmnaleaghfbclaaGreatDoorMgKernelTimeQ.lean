/- KernelTime, part 17 of 28: contracts of the functions that it reaches, and the laws that they need, merged and shortened (from my texts XTimeP, XMadeP, XTmP, XCpL). -/
import Derived.Test.YtmnaleaghfbclaaGreatDoorMgKernelTimeA
import Derived.Test.YtmnaleaghfbclaaGreatDoorMgKernelTimeH
import Derived.Test.YtmnaleaghfbclaaGreatDoorMgKernelTimeI
import Derived.Test.YtmnaleaghfbclaaGreatDoorMgKernelTimeL
import Derived.Test.YtmnaleaghfbclaaGreatDoorMgKernelTimeO
import Derived.Test.YtmnaleaghfbclaaGreatDoorMgKernelTimeP
namespace Go.Proofs.YtmnaleaghfbclaaGreatDoor
set_option linter.unusedVariables false
set_option linter.unusedSimpArgs false
set_option maxHeartbeats 8000000
section
open Go.RowKit
def whole (ws : List Win) : List Int := ws.flatMap fun a => List.replicate a.len.toNat a.part
def ticksV (ws : List Win) (id : Int) : Nat := (whole ws).count id
theorem whole_len {ws : List Win} (h : ∀ a ∈ ws, winOk a = true) : ((whole ws).length : Int) = wsum ws := by
 induction ws with
 | nil => rfl
 | cons a r ih =>
  have ha := (winOk_iff.1 (h a (List.mem_cons_self ..))).1
  have := ih (fun b hb => h b (List.mem_cons_of_mem _ hb))
  rw [wsum_cons, ← this]
  simp only [whole, List.flatMap_cons, List.length_append, List.length_replicate]
  omega
theorem slotGo_whole {tick : Int} : ∀ (ws : List Win) (acc : Int), (∀ a ∈ ws, winOk a = true) → acc ≤ tick → tick < acc + wsum ws → (whole ws)[(tick - acc).toNat]? = some (slotGo acc ws tick).2
 | [], acc, _, h0, h1 => by simp [wsum] at h1; omega
 | a :: r, acc, hall, h0, h1 => by
  have ha := (winOk_iff.1 (hall a (List.mem_cons_self ..))).1
  have hr : ∀ b ∈ r, winOk b = true := fun b hb => hall b (List.mem_cons_of_mem _ hb)
  rw [wsum_cons] at h1
  unfold slotGo
  rw [whole, List.flatMap_cons]
  by_cases h2 : tick < acc + a.len
  ·rw [if_pos h2, List.getElem?_append_left (by rw [List.length_replicate]; omega), List.getElem?_replicate, if_pos (by omega)]
  ·rw [if_neg h2, List.getElem?_append_right (by rw [List.length_replicate]; omega), List.length_replicate]
   have := slotGo_whole (tick := tick) r (acc + a.len) hr (by omega) (by omega)
   rw [whole, show (tick - (acc + a.len)).toNat = (tick - acc).toNat - a.len.toNat by omega] at this
   exact this
theorem slotV_whole {ws : List Win} {t : Nat} (h : ∀ a ∈ ws, winOk a = true) (h1 : (t : Int) < wsum ws) : (whole ws)[t]? = some (slotV ws t).2 := by
 have := slotGo_whole (tick := (t : Int)) ws 0 h (by omega) (by omega)
 rw [Int.sub_zero, Int.toNat_natCast] at this
 exact this
def cntCode : List UInt8 := [4, 0, 0, 1, 4, 0, 0, 1, 4, 0, 0, 1, 17, 0, 0, 0]
structure Cnt (n : Nat) (p : Pt) : Prop where
 st : p.st = 0
 pc : p.pc = 4 * (n % 4)
 mem : ∃ r, p.mem = cntCode ++ r
 len : p.mem.length ≤ 512
theorem cnt_cut (r : List UInt8) (j : Nat) (hj : j < 4) : cut (cntCode ++ r) (4 * j) 4 = cut cntCode (4 * j) 4 := by
 unfold cut
 rw [List.drop_append_of_le_length (by simp [cntCode]; omega), List.take_append_of_le_length (by simp [cntCode]; omega)]
theorem cnt_step {n : Nat} {p : Pt} (h : Cnt n p) : Cnt (n + 1) (stepV p).1 ∧ (stepV p).2.1 < 0 := by
 obtain ⟨h1, h2, ⟨r, h3⟩, h4⟩ := h
 have hl : 16 ≤ p.mem.length := by rw [h3]; simp [cntCode]
 have hj : n % 4 < 4 := Nat.mod_lt _ (by omega)
 have ht : there p.mem p.pc 4 = true := (there_iff _ _ _).2 ⟨h4, by omega⟩
 have hc : cut p.mem p.pc 4 = cut cntCode (4 * (n % 4)) 4 := by rw [h2, h3, cnt_cut r _ hj]
 have hk : n % 4 = 0 ∨ n % 4 = 1 ∨ n % 4 = 2 ∨ n % 4 = 3 := by omega
 have hadd : fetch p = some ⟨4, 0, 0, 1, ((0 : Nat) : Int)⟩ → p.pc + 4 < 4294967296 → stepV p = ({ p.set 0 (mk2 4 (p.g 0) (p.g 1)) with pc := (p.pc + 4) % 4294967296 }, -1, 0) := fun hf' _ => by
  rw [stepV_does h1 hf' (by decide +kernel) (by unfold jumpsB; simp) (does_4 p 0 0 1 0)]
  rfl
 rcases hk with hk | hk | hk | hk
 ·have := hadd (by unfold fetch; rw [if_pos ht, hc, hk]; decide +kernel) (by omega)
  rw [this]
  exact ⟨⟨h1, by show (p.pc + 4) % 4294967296 = _; omega, ⟨r, h3⟩, h4⟩, show (-1 : Int) < 0 by decide⟩
 ·have := hadd (by unfold fetch; rw [if_pos ht, hc, hk]; decide +kernel) (by omega)
  rw [this]
  exact ⟨⟨h1, by show (p.pc + 4) % 4294967296 = _; omega, ⟨r, h3⟩, h4⟩, show (-1 : Int) < 0 by decide⟩
 ·have := hadd (by unfold fetch; rw [if_pos ht, hc, hk]; decide +kernel) (by omega)
  rw [this]
  exact ⟨⟨h1, by show (p.pc + 4) % 4294967296 = _; omega, ⟨r, h3⟩, h4⟩, show (-1 : Int) < 0 by decide⟩
 ·have hf' : fetch p = some ⟨17, 0, 0, 0, ((0 : Nat) : Int)⟩ := by unfold fetch; rw [if_pos ht, hc, hk]; decide +kernel
  rw [stepV_jump h1 hf' (by decide +kernel) (by unfold jumpsB; simp)]
  exact ⟨⟨h1, by show (0 : Nat) = _; omega, ⟨r, h3⟩, h4⟩, show (-1 : Int) < 0 by decide⟩
structure Counts (ws : List Win) (f t : Nat) (k : Kn) : Prop where
 wse : k.c.ws = ws
 tick : k.tick = t
 fr : k.s.frames = f
 yl : k.yl = false
 ps : ∀ p ∈ k.s.parts, Cnt (f * ticksV ws p.id + ((whole ws).take t).count p.id) p
 ids : (k.s.parts.map (·.id)).Nodup
theorem nodup_at {l : List Pt} (h : (l.map (·.id)).Nodup) {i j : Nat} {p q : Pt} (hp : l[i]? = some p) (hq : l[j]? = some q) (he : p.id = q.id) : i = j := by
 have hi := (List.getElem?_eq_some_iff.1 hp).1
 refine (List.getElem?_inj (by simpa using hi) h).1 ?_
 rw [List.getElem?_map, List.getElem?_map, hp, hq, Option.map_some, Option.map_some, he]
theorem counts_turn {ws : List Win} {f t : Nat} {k : Kn} (h : Counts ws f t k) (hall : ∀ a ∈ ws, winOk a = true) (ht : (t : Int) < wsum ws) :
  k.turn.c = k.c ∧ k.turn.tick = k.tick ∧ k.turn.s.frames = k.s.frames ∧ k.turn.yl = false ∧ k.turn.s.parts.map (·.id) = k.s.parts.map (·.id) ∧ ∀ p ∈ k.turn.s.parts, Cnt (f * ticksV ws p.id + ((whole ws).take (t + 1)).count p.id) p := by
 have hw := slotV_whole hall ht
 have htk : ∀ x : Int, ((whole ws).take (t + 1)).count x = ((whole ws).take t).count x + (if (slotV ws t).2 = x then 1 else 0) := fun x => by
  rw [List.take_add_one, hw, List.count_append]
  simp only [Option.toList, List.count_cons, List.count_nil, Nat.zero_add, beq_iff_eq]
 have hsl : slotV k.c.ws k.tick = slotV ws t := by rw [h.wse, h.tick]
 obtain ⟨h1, h2, h3, h4, h5⟩ := fresh_s k
 have hfy : k.fresh.yl = false := by
  unfold Kn.fresh
  split
  ·rfl
  ·exact h.yl
 unfold Kn.turn
 rw [hsl]
 by_cases hi : idxOf (idP (slotV ws t).2) k.s.parts < 0
 ·rw [if_pos hi]
  refine ⟨h2, h3, by rw [h1], hfy, by rw [h1], fun p hp => ?_⟩
  rw [h1] at hp
  have hne : ¬ (slotV ws t).2 = p.id := by
   intro e
   have hge := idx_ge (idP (slotV ws t).2) k.s.parts
   have : k.s.parts.any (idP (slotV ws t).2) = true := List.any_eq_true.2 ⟨p, hp, by simp [idP, e]⟩
   rw [this] at hge
   simp at hge
   omega
  rw [htk, if_neg hne]
  exact h.ps p hp
 ·rw [if_neg hi]
  have hi' : ¬ idxOf (idP (slotV ws t).2) k.s.parts < 0 := hi
  obtain ⟨p, hp, hid⟩ := idx_at hi'
  have hp' : k.fresh.s.parts[(idxOf (idP (slotV ws t).2) k.s.parts).toNat]? = some p := by rw [h1]; exact hp
  obtain ⟨j, hj⟩ : ∃ j, (idxOf (idP (slotV ws t).2) k.s.parts).toNat = j := ⟨_, rfl⟩
  rw [hj] at hp hp' ⊢
  have hc := h.ps p (List.mem_of_getElem? hp)
  obtain ⟨hc1, hc2⟩ := cnt_step hc
  have hd : doesV j k.fresh = { k.fresh with s := { k.fresh.s with parts := k.fresh.s.parts.set j (stepV p).1 } } := by
   unfold doesV
   rw [hp']
   simp only
   rw [if_pos ⟨hc.st, hfy⟩, if_pos hc2]
  rw [hd]
  refine ⟨h2, h3, by show k.fresh.s.frames = _; rw [h1], hfy, ?_, fun q hq => ?_⟩
  ·show (k.fresh.s.parts.set j (stepV p).1).map (·.id) = _
   rw [h1, List.map_set, (step_id p).1]
   apply List.ext_getElem?
   intro i
   rw [List.getElem?_set]
   by_cases hij : j = i
   ·subst hij
    rw [if_pos rfl, List.getElem?_map, hp]
    simp [(List.getElem?_eq_some_iff.1 hp).1]
   ·rw [if_neg hij]
  ·have hq' : q ∈ k.s.parts.set j (stepV p).1 := by rw [← h1]; exact hq
   obtain ⟨i, hi2⟩ := List.getElem?_of_mem hq'
   rw [List.getElem?_set] at hi2
   by_cases hij : j = i
   ·subst hij
    rw [if_pos rfl, if_pos (List.getElem?_eq_some_iff.1 hp).1] at hi2
    injection hi2 with hi2
    subst hi2
    rw [(step_id p).1, htk, if_pos hid.symm, ← Nat.add_assoc]
    exact hc1
   ·rw [if_neg hij] at hi2
    have hne : ¬ (slotV ws t).2 = q.id := fun e => hij (nodup_at h.ids hp hi2 (by rw [hid, e]))
    rw [htk, if_neg hne]
    exact h.ps q (List.mem_of_getElem? hi2)
theorem counts_tick {ws : List Win} {f t : Nat} {k : Kn} (h : Counts ws f t k) (hall : ∀ a ∈ ws, winOk a = true) (ht : (t : Int) < wsum ws) (hf : f ≤ 1000) :
  if (t : Int) + 1 < wsum ws then Counts ws f (t + 1) k.ticked ∧ k.turn.ends = false else Counts ws (f + 1) 0 k.ticked ∧ k.turn.ends = true := by
 obtain ⟨h1, h2, h3, h4, h5, h6⟩ := counts_turn h hall ht
 have hl := whole_len hall
 unfold Kn.ticked Kn.next Kn.ends
 rw [h1, h2, h.wse, h.tick]
 by_cases hlt : (t : Int) + 1 < wsum ws
 ·rw [if_pos hlt, if_pos hlt]
  refine ⟨⟨by show k.c.ws = ws; exact h.wse, by show (t : Int) + 1 = ((t + 1 : Nat) : Int); omega, by show k.turn.s.frames = _; rw [h3, h.fr], h4, h6, by show (k.turn.s.parts.map (·.id)).Nodup; rw [h5]; exact h.ids⟩, by simp [hlt]⟩
 ·rw [if_neg hlt, if_neg hlt]
  refine ⟨⟨by show k.c.ws = ws; exact h.wse, rfl, ?_, h4, fun p hp => ?_, by show (k.turn.s.parts.map (·.id)).Nodup; rw [h5]; exact h.ids⟩, by simp [hlt]⟩
  ·show min (k.turn.s.frames + 1) 1099511627776 = ((f + 1 : Nat) : Int)
   rw [h3, h.fr]
   omega
  ·have := h6 p hp
   have hfull : (whole ws).take (t + 1) = whole ws := List.take_of_length_le (by omega)
   rw [hfull] at this
   rw [List.take_zero, List.count_nil, Nat.add_zero, Nat.add_mul, Nat.one_mul]
   exact this
end
section
open Go.RowKit
theorem mayL_of {α : Type} {ok : α → Bool} {id : α → Int} {l : List α} (h : ∀ a ∈ l, ok a = true) (hr : rise (l.map id) = true) : mayL ok id l = true := by
 refine mayL_yes (fun j hj => ?_)
 have ha := List.getElem?_eq_getElem hj
 cases j with
 | zero => exact stepMay_zero ha (h _ (List.getElem_mem hj))
 | succ j =>
  have hb := List.getElem?_eq_getElem (l := l) (show j < l.length by omega)
  exact stepMay_succ ha (h _ (List.getElem_mem hj)) hb (rise_iff.1 hr j _ _ (by rw [List.getElem?_map, hb]; rfl) (by rw [List.getElem?_map, ha]; rfl))
theorem rise_tail {a : Int} {l : List Int} (h : rise (a :: l) = true) : rise l = true := by
 cases l with
 | nil => rfl
 | cons b t => simp only [rise, Bool.and_eq_true] at h; exact h.2
theorem rise_gt : ∀ {l : List Int} {a : Int}, rise (a :: l) = true → ∀ x ∈ l, a < x
 | [], _, _, x, hx => absurd hx (by simp)
 | b :: t, a, h, x, hx => by
  simp only [rise, Bool.and_eq_true, decide_eq_true_eq] at h
  rcases List.mem_cons.1 hx with rfl | hx
  ·exact h.1
  ·have := rise_gt h.2 x hx
   omega
theorem fits_ids {c : Cfg} (h : fitsB c = true) : rise (c.ps.map (·.id)) = true ∧ ∀ a ∈ c.ps, 1 ≤ a.id ∧ a.id ≤ 6 := by
 have h2 := (fits_iff.1 h).2.1
 simp only [partsBad, Bool.not_eq_false', Bool.and_eq_true, decide_eq_true_eq, List.all_eq_true] at h2
 exact ⟨rise_tail h2.1.2, fun a ha => ⟨by have := rise_gt h2.1.2 a.id (List.mem_map_of_mem ha); omega, h2.2 a ha⟩⟩
theorem fits_chs {c : Cfg} (h : fitsB c = true) : rise (c.cs.map (·.id)) = true ∧ ∀ a ∈ c.cs, a.may = true := by
 have h5 := (fits_iff.1 h).2.2.2.2
 simp only [channelsBad, Bool.or_eq_false_iff, decide_eq_false_iff_not, Decidable.not_not] at h5
 have h := h5.1.2
 unfold chAll at h
 split at h
 ·exact absurd h (by decide)
 ·rename_i hn
  split at h
  ·rename_i hr
   refine ⟨hr, fun a ha => ?_⟩
   by_cases hm : a.may = true
   ·exact hm
   ·exact absurd (List.any_eq_true.2 ⟨a, ha, by simpa using hm⟩) hn
  ·exact absurd h (by decide)
theorem fresh_partOk {c : Cfg} (h : fitsB c = true) {a : Pn} (ha : a ∈ c.ps) : partOk (freshP a) = true := by
 obtain ⟨n, hn, h1, h2, h3⟩ := fits_part h ha
 have hi := (fits_ids h).2 a ha
 have hr := (fits_iff.1 h).2.2.1
 unfold regionsBad at hr
 rw [List.any_eq_false] at hr
 have hr := hr a ha
 have hm : regMay a.base a.size = true := by
  unfold regBad at hr
  simp only [Bool.or_eq_true, Bool.not_eq_true', not_or, Bool.not_eq_false] at hr
  exact hr.1
 have hm := regMay_iff.1 hm
 have hz : regMay 0 a.size = true := regMay_iff.2 ⟨by omega, by omega, by omega, by omega, by omega, by omega⟩
 have hm2 : ((freshP a).mem.length : Int) = (freshP a).size := by
  show ((fillL a.size.toNat a.img).length : Int) = a.size
  rw [hn, Int.toNat_natCast, fillL_len h3]
 simp only [partOk, Bool.and_eq_true, decide_eq_true_eq]
 exact ⟨⟨⟨⟨hi.1, hi.2⟩, hz⟩, hm2⟩, by show ((0 : Nat) : Int) ≤ 4; omega⟩
theorem fresh_mayQ {c : Cfg} (h : fitsB c = true) {a : Ch} (ha : a ∈ c.cs) : mayQ (freshQ a) = true := by
 have hm := (fits_chs h).2 a ha
 have hc : 0 ≤ a.cap := by
  simp only [Ch.may, chMay, Bool.and_eq_true, decide_eq_true_eq] at hm
  omega
 simp [mayQ, freshQ, hm, hc]
theorem fresh_ids (c : Cfg) : (freshS c).parts.map Pt.id = c.ps.map (·.id) ∧ (freshS c).queues.map (fun q : Qu => q.ch.id) = c.cs.map (·.id) := by
 constructor <;> simp [freshS, freshP, freshQ, Function.comp_def]
theorem fresh_mayS {c : Cfg} (h : fitsB c = true) : mayS (freshS c) = true := by
 obtain ⟨h1, h2, h3⟩ := fits_lens h
 obtain ⟨e1, e2⟩ := fresh_ids c
 have hp : mayL partOk Pt.id (freshS c).parts = true := mayL_of (fun p hp => by
   obtain ⟨a, ha, rfl⟩ := List.mem_map.1 hp
   exact fresh_partOk h ha) (by rw [e1]; exact (fits_ids h).1)
 have hq : mayL mayQ (fun q : Qu => q.ch.id) (freshS c).queues = true := mayL_of (fun p hp => by
   obtain ⟨a, ha, rfl⟩ := List.mem_map.1 hp
   exact fresh_mayQ h ha) (by rw [e2]; exact (fits_chs h).1)
 have l1 : (freshS c).parts.length = c.ps.length := by simp [freshS]
 have l2 : (freshS c).queues.length = c.cs.length := by simp [freshS]
 simp only [mayS, Bool.and_eq_true, decide_eq_true_eq]
 exact ⟨⟨⟨⟨⟨by show (0 : Int) ≤ 0; omega, by show (0 : Int) ≤ _; omega⟩, by omega⟩, by omega⟩, hp⟩, hq⟩
theorem fresh_is {c : Cfg} (h : fitsB c = true) : isB (freshS c) c := by
 refine ⟨eqAll_iff.2 ⟨by simp [freshS], fun i a b ha hb => ?_⟩, eqAll_iff.2 ⟨by simp [freshS], fun i a b ha hb => ?_⟩, fresh_mayS h, h⟩
 ·simp only [freshS, List.getElem?_map, hb, Option.map_some, Option.some.injEq] at ha
  subst ha
  simp [sameP, freshP]
 ·simp only [freshS, List.getElem?_map, hb, Option.map_some, Option.some.injEq] at ha
  subst ha
  simp [sameQ, freshQ]
theorem fits_ws {c : Cfg} (h : fitsB c = true) : schMay c.ws = true := by
 have := (fits_iff.1 h).1
 simp only [windowsBad, Bool.or_eq_false_iff, Bool.not_eq_false'] at this
 exact this.1
theorem wsum_pos {ws : List Win} (h : schMay ws = true) : 0 < wsum ws := by
 obtain ⟨h1, _, h3, _⟩ := schMay_bd h
 cases ws with
 | nil => simp at h1
 | cons a r =>
  rw [wsum_cons]
  have := (winOk_iff.1 (h3 a (List.mem_cons_self ..))).1
  have := wsum_ge (ws := r) (fun b hb => h3 b (List.mem_cons_of_mem _ hb))
  omega
def kFresh (c : Cfg) (ver : Int) : Kn := ⟨c, freshS c, ver, 0, [], false⟩
theorem fresh_good {c : Cfg} (h : fitsB c = true) (ver : Int) : (kFresh c ver).Good := by
 obtain ⟨h1, h2, h3⟩ := fits_lens h
 refine ⟨fits_ws h, by show (0 : Int) ≤ 0; omega, wsum_pos (fits_ws h), by show (0 : Int) ≤ 0; omega, by show (0 : Int) ≤ _; omega, by simp [kFresh, freshS]; omega, by simp [kFresh, freshS]; omega, fun p hp => ?_, fun p hp => ?_, fun x hx => absurd hx (by simp [kFresh])⟩
 ·obtain ⟨a, ha, rfl⟩ := List.mem_map.1 hp
  exact fresh_partOk h ha
 ·obtain ⟨a, ha, rfl⟩ := List.mem_map.1 hp
  exact fresh_mayQ h ha
end
section
open Go.RowKit
def cntP (a : Pn) : Pn := { a with img := cntCode }
def cntC (c : Cfg) : Cfg := { c with ps := c.ps.map cntP }
theorem hasB_cnt (ps : List Pn) (id : Int) : hasB (ps.map cntP) id = hasB ps id := by simp [hasB, List.any_map, Function.comp_def, cntP]
theorem cntC_fits {c : Cfg} (h : fitsB c = true) : fitsB (cntC c) = true := by
 have hp := fun a ha => fits_part h (a := a) ha
 obtain ⟨h1, h2, h3, h4, h5⟩ := fits_iff.1 h
 refine fits_iff.2 ⟨?_, ?_, ?_, ?_, ?_⟩
 ·rw [← h1]
  unfold windowsBad
  have : winBad (cntC c) = winBad c := by
   funext x
   simp [winBad, cntC, hasB_cnt]
  rw [this]
  rfl
 ·rw [← h2]
  unfold partsBad
  simp [cntC, List.map_map, Function.comp_def, cntP, List.all_map]
  try rfl
 ·unfold regionsBad at h3 ⊢
  rw [List.any_eq_false] at h3 ⊢
  intro a ha
  obtain ⟨b, hb, rfl⟩ := List.mem_map.1 ha
  have h6 := h3 b hb
  obtain ⟨n, hn, hn16, _, _⟩ := hp b hb
  unfold regBad at h6 ⊢
  simp only [Bool.or_eq_true, Bool.not_eq_true', decide_eq_true_eq, not_or, Bool.not_eq_false] at h6 ⊢
  refine ⟨h6.1, ?_⟩
  show ¬ ((16 : Nat) : Int) > b.size
  omega
 ·rw [← h4]
  unfold overlapBad mayRegs
  have : (cntC c).ps.map (fun p => (⟨p.base, p.size⟩ : Rg)) = c.ps.map (fun p => (⟨p.base, p.size⟩ : Rg)) := by
   simp [cntC, List.map_map, Function.comp_def, cntP]
  rw [this]
 ·rw [← h5]
  unfold channelsBad
  have : chBad (cntC c) = chBad c := by
   funext x
   simp [chBad, cntC, hasB_cnt]
  rw [this]
  rfl
theorem nodup_of_rise {l : List Int} (h : rise l = true) : l.Nodup := by
 induction l with
 | nil => exact List.nodup_nil
 | cons a t ih =>
  exact List.nodup_cons.2 ⟨fun hm => by have := rise_gt h a hm; omega, ih (rise_tail h)⟩
theorem counts_fresh {c : Cfg} (h : fitsB c = true) : Counts c.ws 0 0 (kFresh (cntC c) 1) := by
 refine ⟨rfl, rfl, rfl, rfl, fun p hp => ?_, ?_⟩
 ·obtain ⟨a, ha, rfl⟩ := List.mem_map.1 hp
  obtain ⟨b, hb, rfl⟩ := List.mem_map.1 ha
  obtain ⟨n, hn, h16, h512, _⟩ := fits_part h hb
  have hm : (freshP (cntP b)).mem = cntCode ++ List.replicate (b.size.toNat - 16) 0 := rfl
  refine ⟨rfl, ?_, ⟨_, hm⟩, ?_⟩
  ·simp [freshP]
  ·rw [hm]; simp [cntCode]; omega
 ·have := nodup_of_rise (fits_ids h).1
  have e : (kFresh (cntC c) 1).s.parts.map (·.id) = c.ps.map (·.id) := by
   simp [kFresh, cntC, freshS, freshP, cntP, Function.comp_def]
  rw [e]
  exact this
structure TimeK (c : Cfg) (f t : Nat) (k : Kn) : Prop where
 good : k.Good
 cnt : Counts c.ws f t k
 ids : k.s.parts.map (·.id) = c.ps.map (·.id)
theorem ticked_ids (k : Kn) : k.ticked.s.parts.map (·.id) = k.turn.s.parts.map (·.id) := by
 unfold Kn.ticked Kn.next
 dsimp only
 split <;> rfl
theorem TimeK.tick {c : Cfg} {f t : Nat} {k : Kn} (h : TimeK c f t k) (hf : fitsB c = true) (ht : (t : Int) < wsum c.ws) (hfr : f ≤ 1000) :
  if (t : Int) + 1 < wsum c.ws then TimeK c f (t + 1) k.ticked ∧ k.turn.ends = false else TimeK c (f + 1) 0 k.ticked ∧ k.turn.ends = true := by
 have hall : ∀ a ∈ c.ws, winOk a = true := (schMay_bd (fits_ws hf)).2.2.1
 have h1 := counts_tick h.cnt hall ht hfr
 have h2 : k.ticked.s.parts.map (·.id) = c.ps.map (·.id) := by
  rw [ticked_ids, (counts_turn h.cnt hall ht).2.2.2.2.1, h.ids]
 by_cases hlt : (t : Int) + 1 < wsum c.ws
 ·rw [if_pos hlt] at h1 ⊢
  exact ⟨⟨h.good.ticked, h1.1, h2⟩, h1.2⟩
 ·rw [if_neg hlt] at h1 ⊢
  exact ⟨⟨h.good.ticked, h1.1, h2⟩, h1.2⟩
theorem TimeK.first {c : Cfg} (hf : fitsB c = true) : TimeK c 0 0 (kFresh (cntC c) 1) :=
 ⟨fresh_good (cntC_fits hf) 1, counts_fresh hf, by simp [kFresh, cntC, freshS, freshP, cntP, Function.comp_def]⟩
theorem TimeK.part {c : Cfg} {f : Nat} {k : Kn} (h : TimeK c f 0 k) {i : Nat} {a : Pn} (ha : c.ps[i]? = some a) :
  ∃ (j : Nat) (p : Pt), idxOf (idP a.id) k.s.parts = j ∧ k.s.parts[j]? = some p ∧ p.st = 0 ∧ p.pc = 4 * (f * ticksV c.ws a.id % 4) := by
 have hi : (k.s.parts.map (·.id))[i]? = some a.id := by rw [h.ids, List.getElem?_map, ha]; rfl
 rw [List.getElem?_map] at hi
 cases hp : k.s.parts[i]? with
 | none => rw [hp] at hi; simp at hi
 | some p =>
  rw [hp] at hi
  simp only [Option.map_some, Option.some.injEq] at hi
  have hge := idx_ge (idP a.id) k.s.parts
  have hany : k.s.parts.any (idP a.id) = true := List.any_eq_true.2 ⟨p, List.mem_of_getElem? hp, by simp [idP, hi]⟩
  rw [hany] at hge
  simp at hge
  obtain ⟨j, hj⟩ : ∃ j : Nat, idxOf (idP a.id) k.s.parts = j := ⟨(idxOf (idP a.id) k.s.parts).toNat, by omega⟩
  obtain ⟨q, hq, hid⟩ := idx_at (show ¬ idxOf (idP a.id) k.s.parts < 0 by omega)
  rw [hj, Int.toNat_natCast] at hq
  have hc := h.cnt.ps q (List.mem_of_getElem? hq)
  rw [hid, List.take_zero, List.count_nil, Nat.add_zero] at hc
  exact ⟨j, q, hj, hq, hc.st, hc.pc⟩
end
section
open Go.RowKit
theorem run_cpS {P : Program} {α : Type} (R : World → α → List Value → Prop) {w : World} (t ty : TypeId) (e : TypeId) (z : Value) (sz bytes : Nat) (ht : P.underlying t = some (.slice e)) (hi : (P.info? e).map (fun i => (i.zero, i.size, i.bytes)) = some (some z, sz, bytes))
  (hzs : z.cells.size = sz) (hsz : 0 < sz) (B g0 : Nat) (hg0 : w.heap[g0]? = some (.cells #[] e (0, 0))) (hB : B ≤ g0) (I : Nat → Prop) (b o2 : Nat) (l : List α) (c : Nat) (hl0 : l ≠ []) (hr : RdL R I sz w (some ⟨b, o2, none⟩) l) (hone : ∀ a vs, R w a vs → ∀ u ∈ vs, u.oneCell' = true)
  (hl : l.length ≤ 1000000) (hby : bytes ≤ 100000) (hR : ∀ w' a vs, Chg (fun k => k = g0) w w' → R w a vs → R w' a vs) :
  ∃ v2 w2, (Builtin.append_ #[t, t] ty #[.slice (some ⟨g0, 0, none⟩) 0 0, .slice (some ⟨b, o2, none⟩) l.length c]).run P w = .ok v2 w2 ∧ OwnL R B e sz w2 v2 l ∧ Chg (fun k => k = g0) w w2 ∧ (∀ g, v2.ownBlock = some g → g = g0 ∨ g = w.heap.size) := by
 obtain ⟨i0, hi0, hz0, hs0, hb0⟩ := info_parts hi
 have hpos : 0 < l.length := List.length_pos_iff.2 hl0
 obtain ⟨b', o', e', hIb, hat⟩ := hr.at_ hpos
 injection e' with e'
 injection e' with e1 e2 _
 subst e1 e2
 have hch : ∀ i, i < l.length → ∃ vs : List Value, vs.length = sz ∧ w.rangeAt b (o2 + i * sz) vs ∧ ∃ a, l[i]? = some a ∧ R w a vs := fun i hi => by
  obtain ⟨vs, h1, h2, h3⟩ := hat i l[i] (List.getElem?_eq_getElem hi)
  exact ⟨vs, h1, h2, l[i], List.getElem?_eq_getElem hi, h3⟩
 obtain ⟨xss, hxl, hxp⟩ : ∃ xss : List (List Value), xss.length = l.length ∧ ∀ (i : Nat) (x : List Value), xss[i]? = some x → x.length = sz ∧ w.rangeAt b (o2 + i * sz) x ∧ ∃ a, l[i]? = some a ∧ R w a x := by
  clear hr hat
  have key : ∀ n, n ≤ l.length → ∃ xss : List (List Value), xss.length = n ∧ ∀ (i : Nat) (x : List Value), xss[i]? = some x → x.length = sz ∧ w.rangeAt b (o2 + i * sz) x ∧ ∃ a, l[i]? = some a ∧ R w a x := by
   intro n
   induction n with
   | zero => exact fun _ => ⟨[], rfl, fun i x h => by simp at h⟩
   | succ n ih =>
    intro hn
    obtain ⟨xs, h1, h2⟩ := ih (by omega)
    obtain ⟨vs, hv1, hv2, hv3⟩ := hch n (by omega)
    refine ⟨xs ++ [vs], by simp [h1], fun i x hx => ?_⟩
    by_cases hi : i < n
    ·rw [List.getElem?_append_left (by omega)] at hx
     exact h2 i x hx
    ·have := (List.getElem?_eq_some_iff.1 hx).1
     obtain rfl : i = n := by simp [h1] at this; omega
     rw [List.getElem?_append_right (by omega), h1, Nat.sub_self] at hx
     simp only [List.getElem?_cons_zero, Option.some.injEq] at hx
     subst hx
     exact ⟨hv1, hv2, hv3⟩
  exact key _ (Nat.le_refl _)
 have hall : ∀ x ∈ xss, x.length = sz := fun x hx => by
  obtain ⟨i, hi⟩ := List.getElem?_of_mem hx
  exact (hxp i x hi).1
 have hfl : xss.flatten.length = l.length * sz := by
  rw [← hxl]
  clear hxp hxl hr hat hch
  induction xss with
  | nil => simp
  | cons y t ih =>
   rw [List.flatten_cons, List.length_append, hall y (List.mem_cons_self ..), ih (fun x hx => hall x (List.mem_cons_of_mem _ hx)), List.length_cons, Nat.succ_mul]
   omega
 have hown : w.ownsRow B e sz (.slice (some ⟨g0, 0, none⟩) 0 0) 0 [] := ⟨by simp, .inr ⟨g0, 0, #[], rfl, hB, hg0, Nat.le_refl _, by simp, by simp, by simp⟩⟩
 obtain ⟨g, cap, w2, hrun, h2, hgrow, hat2, hlt⟩ := run_append_lies (P := P) w t ty B e i0 z sz bytes ht hi0 hz0 hs0 hb0 hzs hsz _ 0 [] hown ⟨b, o2, none⟩ l.length c xss.flatten hfl (by
   intro j u hu
   have hjl : j < l.length * sz := by rw [← hfl]; exact (List.getElem?_eq_some_iff.1 hu).1
   have hdm : j = j / sz * sz + j % sz := by rw [Nat.mul_comm]; exact (Nat.div_add_mod j sz).symm
   have hdl : j / sz < l.length := (Nat.div_lt_iff_lt_mul hsz).2 hjl
   obtain ⟨x, hx⟩ : ∃ x, xss[j / sz]? = some x := ⟨_, List.getElem?_eq_getElem (by omega)⟩
   obtain ⟨q1, q2, _⟩ := hxp _ _ hx
   obtain ⟨u', hu'⟩ : ∃ u', x[j % sz]? = some u' := ⟨_, List.getElem?_eq_getElem (by rw [q1]; exact Nat.mod_lt _ hsz)⟩
   have := flat_get hall hx hu'
   rw [← hdm, hu] at this
   injection this with this
   subst this
   have hc := q2 _ _ hu'
   rw [addr_none]
   have he : o2 + j / sz * sz + j % sz = o2 + j := by omega
   rw [he] at hc
   exact hc) (by
   intro u hu
   obtain ⟨x, hx, hux⟩ := List.mem_flatten.1 hu
   obtain ⟨i, hi⟩ := List.getElem?_of_mem hx
   obtain ⟨_, _, a', _, hRa⟩ := hxp i x hi
   exact hone a' x hRa u hux) hpos (by unfold maxLen; omega) (by rw [Nat.zero_add]; exact Nat.le_trans (Nat.mul_le_mul hl hby) (by omega)) (by have := blk_lt hg0; omega) _ rfl
 have hg : Chg (fun k => k = g0) w w2 := (Chg.refl (fun k => k = g0) w).grown hgrow fun g' hg' => .inl (by simpa [Value.ownBlock, eq_comm] using hg')
 refine ⟨_, w2, hrun, ⟨xss, by simpa using h2, hxl, hall, fun i c x hc hx => ?_⟩, hg, (fun g' e => by
     have : g = g' := by simpa [Value.ownBlock] using e
     subst this
     rcases hat2 with e | e
     · exact .inl (by simpa [Value.ownBlock, eq_comm] using e)
     · exact .inr e)⟩
 obtain ⟨_, _, c', hc', hRc⟩ := hxp i x hx
 rw [hc] at hc'
 injection hc' with hc'
 subst hc'
 exact hR _ _ _ hg hRc
theorem run_cp0 {P : Program} {w : World} (t ty : TypeId) (e : TypeId) (i0 : TypeInfo) (ht : P.underlying t = some (.slice e)) (hi : P.info? e = some i0) (g0 : Nat) (A : Option Addr) (c : Nat) :
  (Builtin.append_ #[t, t] ty #[.slice (some ⟨g0, 0, none⟩) 0 0, .slice A 0 c]).run P w = .ok (.slice (some ⟨g0, 0, none⟩) 0 0) w := by
 cases A <;> simp [Builtin.append_, run_underlying ht, sizeOf, typeInfo, hi, Builtin.lenOf, Builtin.firstCells, storeCells, loadCells, loadCellsFrom]
theorem wp_cp {P : Program} {α : Type} (R : World → α → List Value → Prop) {o : Oper} {a : Act} {w : World} {K : Act → World → Prop} {Q : Exit → Act → World → Prop} (s x : Operand) (t : TypeId)
  (ho : o.op = .call { callee := .builtin .append, args := #[s, x], argTypes := #[t, t] }) (e : TypeId) (z : Value) (sz bytes : Nat) (ht : P.underlying t = some (.slice e)) (hi : (P.info? e).map (fun i => (i.zero, i.size, i.bytes)) = some (some z, sz, bytes))
  (hzs : z.cells.size = sz) (hsz : 0 < sz) (B g0 : Nat) (hg0 : w.heap[g0]? = some (.cells #[] e (0, 0))) (hB : B ≤ g0) (I : Nat → Prop) (hs : a.eval s = .slice (some ⟨g0, 0, none⟩) 0 0) (A : Option Addr) (l : List α) (c : Nat) (hx : a.eval x = .slice A l.length c) (hr : RdL R I sz w A l) (hone : ∀ a vs, R w a vs → ∀ u ∈ vs, u.oneCell' = true)
  (hl : l.length ≤ 1000000) (hby : bytes ≤ 100000) (hR : ∀ w' a vs, Chg (fun k => k = g0) w w' → R w a vs → R w' a vs)
  (h : ∀ v2 w2, OwnL R B e sz w2 v2 l → Chg (fun k => k = g0) w w2 → (∀ g, v2.ownBlock = some g → g = g0 ∨ g = w.heap.size) → K (a.put o.dst v2) w2) : o.wp P a w K Q := by
 have key : ∃ v2 w2, (Builtin.append_ #[t, t] o.type #[.slice (some ⟨g0, 0, none⟩) 0 0, .slice A l.length c]).run P w = .ok v2 w2 ∧ OwnL R B e sz w2 v2 l ∧ Chg (fun k => k = g0) w w2 ∧ (∀ g, v2.ownBlock = some g → g = g0 ∨ g = w.heap.size) := by
  by_cases hl0 : l = []
  ·subst hl0
   obtain ⟨i0, hi0, hz0, hs0, hb0⟩ := info_parts hi
   exact ⟨_, w, run_cp0 t o.type e i0 ht hi0 g0 A c, ⟨[], ⟨by simp, .inr ⟨g0, 0, #[], rfl, hB, hg0, Nat.le_refl _, by simp, by simp, by simp⟩⟩, rfl, (fun x h => by cases h), (fun i a x h => by simp at h)⟩, Chg.refl _ _, fun g e => .inl (by simpa [Value.ownBlock, eq_comm] using e)⟩
  ·obtain ⟨b, o2, e1, _⟩ := hr.at_ (List.length_pos_iff.2 hl0)
   subst e1
   exact run_cpS R t o.type e z sz bytes ht hi hzs hsz B g0 hg0 hB I b o2 l c hl0 hr hone hl hby hR
 obtain ⟨v2, w2, hrun, h1, h2, h3⟩ := key
 unfold Oper.wp execOp
 simp only [ho, resolve, invoke, builtin, Sem.run_bind, Sem.run_pure, Result.andThen_ok, List.map_toArray, List.map_cons, List.map_nil, hs, hx, hrun]
 exact h v2 w2 h1 h2 h3
end
end Go.Proofs.YtmnaleaghfbclaaGreatDoor
