/- KernelApart, part 20 of 27: contracts of the functions that it reaches, and the laws that they need, merged and shortened (from my texts XApartP, XChanB). -/
import Derived.Test.YtmnaleaghfbclaaGreatDoorMgKernelApartA
import Derived.Test.YtmnaleaghfbclaaGreatDoorMgKernelApartE
import Derived.Test.YtmnaleaghfbclaaGreatDoorMgKernelApartO
import Derived.Test.YtmnaleaghfbclaaGreatDoorMgKernelApartR
namespace Go.Proofs.YtmnaleaghfbclaaGreatDoor
set_option linter.unusedVariables false
set_option linter.unusedSimpArgs false
set_option maxHeartbeats 8000000
section
open Go.RowKit
structure SimL {α : Type} (R : α → α → Prop) (l m : List α) : Prop where
 len : l.length = m.length
 at_ : ∀ (i : Nat) (a b : α), l[i]? = some a → m[i]? = some b → R a b
namespace SimL
variable {α : Type} {R : α → α → Prop} {l m : List α}
theorem other (h : SimL R l m) {i : Nat} {a : α} (ha : l[i]? = some a) : ∃ b, m[i]? = some b ∧ R a b := by
 have hi : i < m.length := by rw [← h.len]; exact (List.getElem?_eq_some_iff.1 ha).1
 exact ⟨m[i], List.getElem?_eq_getElem hi, h.at_ i a _ ha (List.getElem?_eq_getElem hi)⟩
theorem none_ (h : SimL R l m) {i : Nat} (ha : l[i]? = none) : m[i]? = none := by
 rw [List.getElem?_eq_none_iff] at ha ⊢
 rw [← h.len]; exact ha
theorem set (h : SimL R l m) {i : Nat} {a b : α} (hR : R a b) : SimL R (l.set i a) (m.set i b) := by
 refine ⟨by simp [h.len], fun j x y hx hy => ?_⟩
 rw [List.getElem?_set] at hx hy
 by_cases hij : i = j
 ·subst hij
  rw [if_pos rfl] at hx hy
  split at hx
  ·split at hy
   ·injection hx with hx; injection hy with hy; subst hx hy; exact hR
   ·cases hy
  ·cases hx
 ·rw [if_neg hij] at hx hy
  exact h.at_ j x y hx hy
theorem setL (h : SimL R l m) {i : Nat} {a : α} (hR : ∀ b, m[i]? = some b → R a b) : SimL R (l.set i a) m := by
 refine ⟨by simp [h.len], fun j x y hx hy => ?_⟩
 rw [List.getElem?_set] at hx
 by_cases hij : i = j
 ·subst hij
  rw [if_pos rfl] at hx
  split at hx
  ·injection hx with hx; subst hx; exact hR y hy
  ·cases hx
 ·rw [if_neg hij] at hx
  exact h.at_ j x y hx hy
theorem symm (h : SimL R l m) (hs : ∀ a b, R a b → R b a) : SimL R m l := ⟨h.len.symm, fun i a b ha hb => hs _ _ (h.at_ i b a hb ha)⟩
theorem refl (hr : ∀ a, R a a) (l : List α) : SimL R l l := ⟨rfl, fun i a b ha hb => by rw [ha] at hb; injection hb with hb; subst hb; exact hr a⟩
theorem find (h : SimL R l m) {p : α → Bool} (hp : ∀ a b, R a b → p a = p b) : l.findIdx? p = m.findIdx? p := by
 obtain ⟨hl, ha⟩ := h
 induction l generalizing m with
 | nil =>
  cases m with
  | nil => rfl
  | cons b t => simp at hl
 | cons x r ih =>
  cases m with
  | nil => simp at hl
  | cons y t =>
   rw [List.findIdx?_cons, List.findIdx?_cons, hp x y (ha 0 x y rfl rfl), ih (m := t) (by simpa using hl) (fun i a b h1 h2 => ha (i + 1) a b h1 h2)]
theorem idx (h : SimL R l m) {p : α → Bool} (hp : ∀ a b, R a b → p a = p b) : idxOf p l = idxOf p m := by
 unfold idxOf
 rw [h.find hp]
end SimL
def partR (L : Int → Prop) (p q : Pt) : Prop := p.id = q.id ∧ (L p.id → p = q)
def queR (L : Int → Prop) (p q : Qu) : Prop := p.ch = q.ch ∧ (L p.ch.dst → p = q)
theorem partR.symm {L : Int → Prop} (a b : Pt) (h : partR L a b) : partR L b a := ⟨h.1.symm, fun e => (h.2 (by rw [h.1]; exact e)).symm⟩
theorem queR.symm {L : Int → Prop} (a b : Qu) (h : queR L a b) : queR L b a := ⟨h.1.symm, fun e => (h.2 (by rw [h.1]; exact e)).symm⟩
structure SimK (L : Int → Prop) (a b : Kn) : Prop where
 c : a.c = b.c
 ver : a.ver = b.ver
 tick : a.tick = b.tick
 fr : a.s.frames = b.s.frames
 ps : SimL (partR L) a.s.parts b.s.parts
 qs : SimL (queR L) a.s.queues b.s.queues
 inp : ∀ id, L id → a.waits id = b.waits id
theorem SimK.symm {L : Int → Prop} {a b : Kn} (h : SimK L a b) : SimK L b a :=
 ⟨h.c.symm, h.ver.symm, h.tick.symm, h.fr.symm, h.ps.symm partR.symm, h.qs.symm queR.symm, fun id e => (h.inp id e).symm⟩
theorem SimK.idx {L : Int → Prop} {a b : Kn} (h : SimK L a b) (id : Int) : idxOf (idP id) a.s.parts = idxOf (idP id) b.s.parts := h.ps.idx (fun p q hR => by unfold idP; rw [hR.1])
theorem SimL.qidx {L : Int → Prop} {a b : List Qu} (h : SimL (queR L) a b) (id : Nat) : idxOf (qidP id) a = idxOf (qidP id) b := h.idx (fun p q hR => by unfold qidP; rw [hR.1])
theorem waits_upd (m : List (Int × List UInt8)) (i : Int) (v : List UInt8) (id : Int) :
  ((((updI m i v).find? (fun p => p.1 == id)).map (·.2)).getD []) = if i = id then v else (((m.find? (fun p => p.1 == id)).map (·.2)).getD []) := by
 unfold updI
 by_cases hs : (m.find? (fun p => p.1 == i)).isSome = true
 ·rw [if_pos hs]
  induction m with
  | nil => simp at hs
  | cons x r ih =>
   rw [List.map_cons, List.find?_cons, List.find?_cons]
   by_cases hx : x.1 = i
   ·have hxb : (x.1 == i) = true := by simpa using hx
    rw [if_pos hxb]
    by_cases hid : i = id
    ·subst hid
     simp
    ·have h1 : (i == id) = false := by simpa using hid
     have h2 : (x.1 == id) = false := by rw [hx]; exact h1
     simp only [h1, h2, if_neg hid]
     -- the rest
     by_cases hs2 : (r.find? (fun p => p.1 == i)).isSome = true
     ·have := ih hs2
      rw [if_neg hid] at this
      exact this
     ·have : r.map (fun p => if p.1 == i then (i, v) else p) = r := by
       refine (List.map_congr_left (fun y hy => ?_)).trans (List.map_id' r)
       have : (y.1 == i) = false := by
        rw [Bool.not_eq_true, Option.isSome_eq_false_iff, Option.isNone_iff_eq_none, List.find?_eq_none] at hs2
        simpa using hs2 y hy
       simp [this]
      rw [this]
   ·have hxb : (x.1 == i) = false := by simpa using hx
    rw [hxb]
    simp only [Bool.false_eq_true, if_false]
    rw [List.find?_cons, hxb] at hs
    cases hxd : x.1 == id with
    | true =>
     have : x.1 = id := by simpa using hxd
     rw [if_neg (by rintro rfl; exact hx this)]
    | false => exact ih hs
 ·rw [if_neg hs]
  have hn : m.find? (fun p => p.1 == i) = none := by
   cases h : m.find? (fun p => p.1 == i) with
   | none => rfl
   | some y => rw [h] at hs; exact absurd rfl hs
  rw [List.find?_append]
  by_cases hid : i = id
  ·subst hid
   rw [hn, if_pos rfl]
   simp
  ·rw [if_neg hid]
   cases hf : m.find? (fun p => p.1 == id) with
   | none => simp [hid]
   | some y => rfl
theorem partR.refl {L : Int → Prop} (a : Pt) : partR L a a := ⟨rfl, fun _ => rfl⟩
theorem queR.refl {L : Int → Prop} (a : Qu) : queR L a a := ⟨rfl, fun _ => rfl⟩
theorem SimL.trans {α : Type} {R : α → α → Prop} {l m n : List α} (h : SimL R l m) (k : SimL R m n) (ht : ∀ a b c, R a b → R b c → R a c) : SimL R l n :=
 ⟨h.len.trans k.len, fun i a c ha hc => by
   obtain ⟨b, hb, hR⟩ := h.other ha
   exact ht a b c hR (k.at_ i b c hb hc)⟩
theorem partR.trans {L : Int → Prop} (a b c : Pt) (h : partR L a b) (k : partR L b c) : partR L a c := ⟨h.1.trans k.1, fun e => (h.2 e).trans (k.2 (by rw [← h.1]; exact e))⟩
theorem queR.trans {L : Int → Prop} (a b c : Qu) (h : queR L a b) (k : queR L b c) : queR L a c := ⟨h.1.trans k.1, fun e => (h.2 e).trans (k.2 (by rw [← h.1]; exact e))⟩
theorem SimK.trans {L : Int → Prop} {a b c : Kn} (h : SimK L a b) (k : SimK L b c) : SimK L a c :=
 ⟨h.c.trans k.c, h.ver.trans k.ver, h.tick.trans k.tick, h.fr.trans k.fr, h.ps.trans k.ps partR.trans, h.qs.trans k.qs queR.trans, fun id e => (h.inp id e).trans (k.inp id e)⟩
theorem SimK.refl (L : Int → Prop) (a : Kn) : SimK L a a := ⟨rfl, rfl, rfl, rfl, .refl partR.refl _, .refl queR.refl _, fun _ _ => rfl⟩
def qGet (i : Int) (l : List Qu) : Option Qu := if i < 0 then none else l[i.toNat]?
theorem qGet_sim {L : Int → Prop} {l m : List Qu} (h : SimL (queR L) l m) (i : Int) : (qGet i l = none ∧ qGet i m = none) ∨ ∃ q r, qGet i l = some q ∧ qGet i m = some r ∧ queR L q r := by
 unfold qGet
 by_cases hi : i < 0
 ·rw [if_pos hi, if_pos hi]; exact .inl ⟨rfl, rfl⟩
 ·rw [if_neg hi, if_neg hi]
  cases hl : l[i.toNat]? with
  | none => exact .inl ⟨rfl, h.none_ hl⟩
  | some q =>
   obtain ⟨r, hr, hR⟩ := h.other hl
   exact .inr ⟨q, r, rfl, hr, hR⟩
theorem qGet_mem {i : Int} {l : List Qu} {q : Qu} (h : qGet i l = some q) : q ∈ l ∧ l[i.toNat]? = some q := by
 unfold qGet at h
 split at h
 ·cases h
 ·exact ⟨List.mem_of_getElem? h, h⟩
theorem sendV_none {p : Pt} {w : Wld} (h : qGet (idxOf (qidP (p.g 0)) w.qs) w.qs = none) : sendV p w = (false, w) := by
 unfold sendV
 unfold qGet at h
 simp only [h]
theorem sendV_some {p : Pt} {w : Wld} {q : Qu} (h : qGet (idxOf (qidP (p.g 0)) w.qs) w.qs = some q) : sendV p w = if there p.mem (p.g 1) (p.g 2) = true ∧ q.ch.src = p.id ∧ (p.g 2 : Int) ≤ q.ch.size then (true, { w with qs := w.qs.set (idxOf (qidP (p.g 0)) w.qs).toNat (putQ q (cut p.mem (p.g 1) (p.g 2))) }) else (false, w) := by
 unfold sendV
 unfold qGet at h
 simp only [h]
theorem recvV_none {p : Pt} {w : Wld} (h : qGet (idxOf (qidP (p.g 0)) w.qs) w.qs = none) : recvV p w = (false, p, w) := by
 unfold recvV
 unfold qGet at h
 simp only [h]
theorem recvV_bad {p : Pt} {w : Wld} {q : Qu} (h : qGet (idxOf (qidP (p.g 0)) w.qs) w.qs = some q) (hc : ¬ (there p.mem (p.g 1) (p.g 2) = true ∧ q.ch.dst = p.id)) : recvV p w = (false, p, w) := by
 unfold recvV
 unfold qGet at h
 simp only [h, if_neg hc]
theorem recvV_empty {p : Pt} {w : Wld} {q : Qu} (h : qGet (idxOf (qidP (p.g 0)) w.qs) w.qs = some q) (hc : there p.mem (p.g 1) (p.g 2) = true ∧ q.ch.dst = p.id) (hm : q.msgs = []) : recvV p w = (true, p.set 0 0, w) := by
 unfold recvV
 unfold qGet at h
 simp only [h, if_pos hc, hm]
theorem recvV_take {p : Pt} {w : Wld} {q : Qu} {m : List UInt8} {rest : List (List UInt8)} (h : qGet (idxOf (qidP (p.g 0)) w.qs) w.qs = some q) (hc : there p.mem (p.g 1) (p.g 2) = true ∧ q.ch.dst = p.id) (hm : q.msgs = m :: rest) :
  recvV p w = (true, ({ p with mem := put p.mem (p.g 1) (m.take (p.g 2)) } : Pt).set 0 ((m.length + 1) % 4294967296), { w with qs := w.qs.set (idxOf (qidP (p.g 0)) w.qs).toNat { q with msgs := rest } }) := by
 unfold recvV
 unfold qGet at h
 simp only [h, if_pos hc, hm]
structure SimD (L : Int → Prop) (da db : Pt × Wld × Bool) : Prop where
 p : da.1 = db.1
 qs : SimL (queR L) da.2.1.qs db.2.1.qs
 inp : da.2.1.inp = db.2.1.inp
 y : da.2.2 = db.2.2
theorem send_sim {L : Int → Prop} (p : Pt) (wa wb : Wld) (hq : SimL (queR L) wa.qs wb.qs) (hi : wa.inp = wb.inp) : (sendV p wa).1 = (sendV p wb).1 ∧ SimL (queR L) (sendV p wa).2.qs (sendV p wb).2.qs ∧ (sendV p wa).2.inp = (sendV p wb).2.inp := by
 have hx := hq.qidx (p.g 0)
 rcases qGet_sim hq (idxOf (qidP (p.g 0)) wa.qs) with ⟨h1, h2⟩ | ⟨q, r, h1, h2, hR⟩
 ·rw [hx] at h2
  rw [sendV_none h1, sendV_none h2]
  exact ⟨rfl, hq, hi⟩
 ·rw [hx] at h2
  rw [sendV_some h1, sendV_some h2, hx, hR.1]
  split
  ·refine ⟨rfl, hq.set ⟨hR.1, fun e => ?_⟩, hi⟩
   rw [hR.2 e]
  ·exact ⟨rfl, hq, hi⟩
theorem recv_sim {L : Int → Prop} (p : Pt) (wa wb : Wld) (hq : SimL (queR L) wa.qs wb.qs) (hi : wa.inp = wb.inp) (hp : L p.id) : (recvV p wa).1 = (recvV p wb).1 ∧ (recvV p wa).2.1 = (recvV p wb).2.1 ∧ SimL (queR L) (recvV p wa).2.2.qs (recvV p wb).2.2.qs ∧ (recvV p wa).2.2.inp = (recvV p wb).2.2.inp := by
 have hx := hq.qidx (p.g 0)
 rcases qGet_sim hq (idxOf (qidP (p.g 0)) wa.qs) with ⟨h1, h2⟩ | ⟨q, r, h1, h2, hR⟩
 ·rw [hx] at h2
  rw [recvV_none h1, recvV_none h2]
  exact ⟨rfl, rfl, hq, hi⟩
 ·rw [hx] at h2
  by_cases hc : there p.mem (p.g 1) (p.g 2) = true ∧ q.ch.dst = p.id
  ·have hqr : q = r := hR.2 (by rw [hc.2]; exact hp)
   subst hqr
   cases hm : q.msgs with
   | nil =>
    rw [recvV_empty h1 hc hm, recvV_empty h2 hc hm]
    exact ⟨rfl, rfl, hq, hi⟩
   | cons m rest =>
    rw [recvV_take h1 hc hm, recvV_take h2 hc hm, hx]
    exact ⟨rfl, rfl, hq.set (queR.refl _), hi⟩
  ·rw [recvV_bad h1 hc, recvV_bad h2 (by rw [← hR.1]; exact hc)]
   exact ⟨rfl, rfl, hq, hi⟩
theorem do_sim {L : Int → Prop} (n : Int) (p : Pt) (wa wb : Wld) (h1 : wa.frames = wb.frames) (h2 : wa.tick = wb.tick) (h3 : wa.ver = wb.ver) (hq : SimL (queR L) wa.qs wb.qs) (hi : wa.inp = wb.inp) (hp : L p.id) : SimD L (doV n p wa) (doV n p wb) := by
 unfold doV
 split
 ·exact ⟨rfl, hq, hi, rfl⟩
 split
 ·obtain ⟨s1, s2, s3⟩ := send_sim p wa wb hq hi
  rw [s1]
  split
  ·exact ⟨rfl, s2, s3, rfl⟩
  ·exact ⟨rfl, hq, hi, rfl⟩
 split
 ·obtain ⟨s1, s2, s3, s4⟩ := recv_sim p wa wb hq hi hp
  rw [s1]
  split
  ·exact ⟨s2, s3, s4, rfl⟩
  ·exact ⟨rfl, hq, hi, rfl⟩
 split
 ·exact ⟨by rw [h1, h2], hq, hi, rfl⟩
 split
 ·unfold inputV
  rw [hi]
  split
  ·exact ⟨rfl, hq, hi, rfl⟩
  ·exact ⟨rfl, hq, rfl, rfl⟩
 split
 ·exact ⟨by rw [h3], hq, hi, rfl⟩
 split
 ·exact ⟨rfl, hq, hi, rfl⟩
 ·exact ⟨rfl, hq, hi, rfl⟩
theorem do_quiet {L : Int → Prop} (n : Int) (p : Pt) (w : Wld) (hp : ¬ L p.id) (hb : ∀ q ∈ w.qs, L q.ch.dst → L q.ch.src) : SimL (queR L) w.qs (doV n p w).2.1.qs := by
 have hr : SimL (queR L) w.qs w.qs := .refl queR.refl _
 unfold doV
 split
 ·exact hr
 split
 ·split
  ·cases hg : qGet (idxOf (qidP (p.g 0)) w.qs) w.qs with
   | none => rw [sendV_none hg]; exact hr
   | some q =>
    rw [sendV_some hg]
    split
    ·rename_i hc
     refine (hr.symm queR.symm).setL (fun b hbq => ?_) |>.symm queR.symm
     rw [(qGet_mem hg).2] at hbq
     injection hbq with hbq
     subst hbq
     exact ⟨rfl, fun e => absurd (hb q (qGet_mem hg).1 e) (by rw [hc.2.1]; exact hp)⟩
    ·exact hr
  ·exact hr
 split
 ·split
  ·cases hg : qGet (idxOf (qidP (p.g 0)) w.qs) w.qs with
   | none => rw [recvV_none hg]; exact hr
   | some q =>
    by_cases hc : there p.mem (p.g 1) (p.g 2) = true ∧ q.ch.dst = p.id
    ·cases hm : q.msgs with
     | nil => rw [recvV_empty hg hc hm]; exact hr
     | cons m rest =>
      rw [recvV_take hg hc hm]
      refine (hr.symm queR.symm).setL (fun b hbq => ?_) |>.symm queR.symm
      rw [(qGet_mem hg).2] at hbq
      injection hbq with hbq
      subst hbq
      exact ⟨rfl, fun e => absurd e (by show ¬ L q.ch.dst; rw [hc.2]; exact hp)⟩
    ·rw [recvV_bad hg hc]; exact hr
  ·exact hr
 split
 ·exact hr
 split
 ·unfold inputV
  split <;> exact hr
 split
 ·exact hr
 split <;> exact hr
theorem does_quiet {L : Int → Prop} {k : Kn} (i : Nat) {p : Pt} (hi : k.s.parts[i]? = some p) (hp : ¬ L p.id) (hb : ∀ q ∈ k.s.queues, L q.ch.dst → L q.ch.src) : SimK L k (doesV i k) := by
 have hset : ∀ q : Pt, q.id = p.id → SimL (partR L) k.s.parts (k.s.parts.set i q) := fun q hq =>
  ((SimL.refl partR.refl k.s.parts).setL (fun b hbp => by
    rw [hi] at hbp
    injection hbp with hbp
    subst hbp
    exact ⟨hq, fun e => absurd e (by rw [hq]; exact hp)⟩)).symm partR.symm
 unfold doesV
 rw [hi]
 simp only
 split
 ·split
  ·exact ⟨rfl, rfl, rfl, rfl, hset _ (step_id p).1, .refl queR.refl _, fun _ _ => rfl⟩
  ·refine ⟨rfl, rfl, rfl, rfl, hset _ ((do_id _ _ _).1.trans (step_id p).1), do_quiet _ _ (k.wld (stepV p).1) (by rw [(step_id p).1]; exact hp) hb, fun id e => ?_⟩
   show _ = (((updI k.inp (stepV p).1.id _).find? (fun p => p.1 == id)).map (·.2)).getD []
   rw [waits_upd, if_neg (by rw [(step_id p).1]; rintro rfl; exact hp e)]
   rfl
 ·exact SimK.refl L k
theorem does_sim {L : Int → Prop} {a b : Kn} (i : Nat) (h : SimK L a b) {p : Pt} (hi : a.s.parts[i]? = some p) (hp : L p.id) (hy : a.yl = b.yl) : SimK L (doesV i a) (doesV i b) ∧ (doesV i a).yl = (doesV i b).yl := by
 obtain ⟨q, hq, hR⟩ := h.ps.other hi
 obtain rfl := hR.2 hp
 unfold doesV
 rw [hi, hq]
 simp only [hy]
 split
 ·split
  ·exact ⟨⟨h.c, h.ver, h.tick, h.fr, h.ps.set (partR.refl _), h.qs, h.inp⟩, rfl⟩
  ·have hid : (stepV p).1.id = p.id := (step_id p).1
   obtain ⟨d1, d2, d3, d4⟩ := do_sim (L := L) (stepV p).2.1 (stepV p).1 (a.wld (stepV p).1) (b.wld (stepV p).1) h.fr h.tick h.ver h.qs (h.inp _ (by rw [hid]; exact hp)) (by rw [hid]; exact hp)
   refine ⟨⟨h.c, h.ver, h.tick, h.fr, ?_, d2, fun id e => ?_⟩, d4⟩
   ·show SimL (partR L) (a.s.parts.set i _) (b.s.parts.set i _)
    rw [d1]
    exact h.ps.set (partR.refl _)
   ·show (((updI a.inp (stepV p).1.id _).find? (fun p => p.1 == id)).map (·.2)).getD [] = (((updI b.inp (stepV p).1.id _).find? (fun p => p.1 == id)).map (·.2)).getD []
    rw [waits_upd, waits_upd, d3]
    split
    ·rfl
    ·exact h.inp id e
 ·exact ⟨h, hy⟩
end
section
open Go.RowKit
def zeroQu : Array Value := #[.int .i64 0, .int .i64 0, .int .i64 0, .int .i64 0, .int .i64 0, .slice none 0 0]
set_option maxRecDepth 100000 in
theorem put_long (J : Nat → Prop) (q : Qu) (v : Value) (A2 : Option Addr) (n c2 : Nat) (w : World) (hq : SlV (msgV J) J 1 w q.msgs v) (hmay : mayQ q = true) (hn : ¬ (n : Int) ≤ q.ch.size) :
  Calls Tryz.prog 271 #[.agg (q.L v).toArray, .slice A2 n c2] w fun e w' => e = .returned (.tuple #[.agg zeroQu, .int .i64 3]) ∧ Chg Non w w' := by
 have HM := Lib.hid (fun W (hg : Chg Non w W) => mayQueue_ok J q v W (hq.non hg (fun a vs h => msgV_non _ _ _ _ hg h)))
 obtain ⟨A, c, rfl, hc, hcm, hr⟩ := hq
 rw [hmay] at HM
 obtain ⟨⟨i, s, d, cap, sz⟩, ms⟩ := q
 simp only at hn
 have hd : decide ((n : Int) > sz) = true := by simpa using hn
 clear hr hmay
 show Calls _ _ #[.agg #[.int .i64 i, .int .i64 s, .int .i64 d, .int .i64 cap, .int .i64 sz, .slice A ms.length c], .slice A2 n c2] _ _
 replace HM : Hid (∀ W, Chg Non w W → Calls Tryz.prog 125 #[.agg #[.int .i64 i, .int .i64 s, .int .i64 d, .int .i64 cap, .int .i64 sz, .slice A ms.length c]] W fun e w' => e = .returned (.bool true) ∧ Chg Non W w') := HM
 go_enter Tryz.func271, Tryz.ntmps271
 go_wp2_with (refine sel (some 8) (.load 95 _) ?_; refine wpList_load_mid rfl 95 (.tmp 2) rfl w.heap.size 0 rfl [.int .i64 i, .int .i64 s, .int .i64 d, .int .i64 cap, .int .i64 sz, .slice A ms.length c] _ (blk_range (heap_alloc2_old w _ _)) Tryz.underlying95 rfl (by kernel_rfl) ?_)
 refine (HM.out _ (((Chg.refl Non w).alloc _).alloc _)).mono ?_
 rintro e u ⟨rfl, hg⟩
 obtain ⟨hb0, hb1, hlt, hgw⟩ := blk_call2 hg
 have HB1 := Lib.hid hb1
 have HG := Lib.hid hgw
 have f4 := blk_cell hb0 4 (v := .int .i64 sz) rfl
 clear hg hb0 hb1 hgw
 go_wp2_with (first
   | (refine sel (some 19) (.build 95 _) ?_; refine wpList_valA rfl (some 19) (.agg zeroQu) rfl (by kernel_rfl) ?_)
   | (refine sel none (.store 95 (.tmp 4) (.tmp 19)) ?_
      refine wpList_store_rowA rfl 95 (.tmp 4) (.tmp 19) rfl (w.heap.size + 1) zeroQu rfl rfl 95 _ HB1.out (by kernel_rfl) rfl (by simp [zeroQu, Value.oneCell']) ?_
      intro W hgW hbW))
 exact bodyPost_ret (res_ct Tryz.results271 _ _ (w.heap.size + 1) 95 zeroQu (0, 0) _ _ rfl rfl hbW Tryz.underlying95 rfl (by kernel_rfl)) (by kernel_rfl) ⟨rfl, HG.out.then_new hgW (fun x e => by omega)⟩
set_option maxRecDepth 100000 in
theorem put_yes (J : Nat → Prop) (q : Qu) (v : Value) (A2 : Option Addr) (m : List UInt8) (c2 : Nat) (w : World) (hq : SlV (msgV J) J 1 w q.msgs v) (hJ : ∀ b, J b → b < w.heap.size) (hm : Rd w A2 m) (hmay : mayQ q = true) (hn : (m.length : Int) ≤ q.ch.size) :
  Calls Tryz.prog 271 #[.agg (q.L v).toArray, .slice A2 m.length c2] w fun e w' => ∃ v', e = .returned (.tuple #[.agg ((putQ q m).L v').toArray, .int .i64 0]) ∧ OwnL (msgV (Exc w.heap.size v')) w.heap.size 50 1 w' v' (putQ q m).msgs ∧ Chg Non w w' := by
 have HM := Lib.hid (fun W (hg : Chg Non w W) => mayQueue_ok J q v W (hq.non hg (fun a vs h => msgV_non _ _ _ _ hg h)))
 obtain ⟨A, c, rfl, hc, hcm, hr⟩ := hq
 obtain ⟨m1, m2, m3⟩ := mayQ_iff.1 hmay
 have hcp := ch_may m1
 rw [hmay] at HM
 obtain ⟨⟨i, s, d, cap, sz⟩, ms⟩ := q
 simp only at hn m2 hcp hc hr
 have hd : decide ((m.length : Int) > sz) = false := by simp; omega
 obtain ⟨l, hl⟩ : ∃ l, (if (ms.length : Int) = cap then ms.drop 1 else ms) = l := ⟨_, rfl⟩
 have HL : Hid ((putQ ⟨⟨i, s, d, cap, sz⟩, ms⟩ m).msgs = l ++ [m]) := Lib.hid (by unfold putQ; simp only; rw [hl])
 have hll : l.length ≤ ms.length := by rw [← hl]; split <;> simp
 have HRm := Lib.hid hm
 have HR := Lib.hid hr
 unfold maxLen at hcm
 show Calls _ _ #[.agg #[.int .i64 i, .int .i64 s, .int .i64 d, .int .i64 cap, .int .i64 sz, .slice A ms.length c], .slice A2 m.length c2] _ _
 replace HM : Hid (∀ W, Chg Non w W → Calls Tryz.prog 125 #[.agg #[.int .i64 i, .int .i64 s, .int .i64 d, .int .i64 cap, .int .i64 sz, .slice A ms.length c]] W fun e w' => e = .returned (.bool true) ∧ Chg Non W w') := HM
 have HMsg := Lib.hid m3
 clear hr hmay m1 m3 hm
 go_enter Tryz.func271, Tryz.ntmps271
 go_wp2_with (refine sel (some 8) (.load 95 _) ?_; refine wpList_load_mid rfl 95 (.tmp 2) rfl w.heap.size 0 rfl [.int .i64 i, .int .i64 s, .int .i64 d, .int .i64 cap, .int .i64 sz, .slice A ms.length c] _ (blk_range (heap_alloc2_old w _ _)) Tryz.underlying95 rfl (by kernel_rfl) ?_)
 refine (HM.out _ (((Chg.refl Non w).alloc _).alloc _)).mono ?_
 rintro e u ⟨rfl, hg⟩
 obtain ⟨hb0, hb1, hlt, hgw⟩ := blk_call2 hg
 have HB0 := Lib.hid hb0
 have HB1 := Lib.hid hb1
 have HG := Lib.hid hgw
 have f4 := blk_cell hb0 4 (v := .int .i64 sz) rfl
 have f3 := blk_cell hb0 3 (v := .int .i64 cap) rfl
 have f5 := blk_cell hb0 5 (v := .slice A ms.length c) rfl
 have hus := HG.out.size
 clear hg hb0 hb1 hgw
 have HR0 := Lib.hid (HR.out.non HG.out (fun a vs h => msgV_non _ _ _ _ HG.out h))
 obtain ⟨n, hn⟩ : ∃ n, ms.length = n := ⟨_, rfl⟩
 have HN := Lib.hid hn
 rw [hn] at hc m2 hll f5 HB0
 by_cases he : (n : Int) = cap
 ·have hde : ((n : Int) == cap) = true := by simpa using he
  obtain ⟨b, o, rfl, _⟩ := HR0.out.at_ (by rw [hn]; omega)
  have hl2 : ms.drop 1 = l := by rw [← hl, if_pos (by rw [hn]; exact he)]
  have hl1 : l.length = n - 1 := by rw [← hl2, List.length_drop, hn]
  by_cases h1 : n = 1
  ·subst h1
   have hl0 : l = [] := List.eq_nil_of_length_eq_zero hl1
   have HCop := Lib.hid (copied_ok J (some ⟨b, o, none⟩) l 0 u (by rw [hl0]; exact RdL.nil _ _ _ _ _) (by omega) (by unfold maxLen; omega) (by omega))
   rw [hl1] at HCop
   clear hl he hl2 hn hl0
   go_wp2_with fail
   refine HCop.out.mono ?_
   rintro e u2 ⟨lv, rfl, hlo, hg2⟩
   have HG2 := Lib.hid (HG.out.then_non hg2)
   have HO2 := Lib.hid hlo
   have HB02 := Lib.hid (blk_keep HB0.out hg2 (fun e => e))
   have HB12 := Lib.hid (blk_keep HB1.out hg2 (fun e => e))
   have hs2 := hg2.size
   clear hlo hg2 f3 f4 f5
   go_wp2_with fail
   refine (SlClone_ok A2 m c2 u2 (HRm.out.non HG2.out) (by omega)).mono ?_
   rintro e u3 ⟨A5, c5, rfl, q1, q2, q3, hg⟩
   have HG3 := Lib.hid (HG2.out.then_non hg)
   have HO3 := Lib.hid (HO2.out.non hg (fun a vs h => h.keep hg (fun _ _ e => e)))
   have HM3 := Lib.hid q3
   have HB03 := Lib.hid (blk_keep HB02.out hg (fun e => e))
   have HB13 := Lib.hid (blk_keep HB12.out hg (fun e => e))
   have hsz3 := hg.size
   have hlt0 := blk_lt HB02.out
   have hlt1 := blk_lt HB12.out
   clear hg q3
   go_wp2_with (first
     | (refine sel (some 42) (.call _) ?_; refine Vm_stop ?_))
   refine HoleV.mk ?_
   refine wpList_snocL (msgV (fun b => Exc (w.heap.size + 2) lv b ∧ b < u3.heap.size)) rfl (.tmp 38) (.tmp 41) 79 rfl (w.heap.size + 2) 50 _ 1 24 Tryz.underlying79 info_clBy rfl (by omega) lv l rfl (((HO3.out.base (B' := w.heap.size + 2) (by omega)).mono (fun _ _ h => h.bound.mono (fun b e => ⟨⟨by have := e.1.1; omega, e.1.2⟩, e.2⟩))).non ((Chg.refl Non u3).alloc _) (fun _ _ h => h.keep ((Chg.refl Non u3).alloc _) (fun _ _ e => e))) u3.heap.size m #[.slice A5 m.length c5] 50 rfl (blk_new _ _) rfl (by simp [Value.oneCell']) (by omega) (by omega) (by simp; omega) (fun _ _ _ hg h => h.keep hg (fun b e => e.1.2)) ?_ ?_
   ·refine ⟨_, rfl, ((own_bytes HM3.out q1 q2).bound.non ((Chg.refl Non u3).alloc _)).mono (fun b e => ⟨⟨?_, fun e2 => ?_⟩, e.2⟩), by omega⟩
    ·have h1 : u2.heap.size ≤ b := e.1
     omega
    ·have h1 : u2.heap.size ≤ b := e.1
     have := (HO2.out.ge e2).2
     omega
   intro v2 w2 ho hg hv
   have hgo : ∀ x, lv.ownBlock = some x → w.heap.size + 2 ≤ x ∧ x < u2.heap.size := fun x e => by have := HO2.out.ge e; omega
   have HO4 : Hid (OwnL (msgV (Exc (w.heap.size + 2) v2)) (w.heap.size + 2) 50 1 w2 v2 (l ++ [m])) := Lib.hid (by
     refine ho.mono (fun a vs h => h.mono (fun b e => ⟨?_, fun e2 => ?_⟩))
     · exact e.1.1
     · rcases hv b e2 with e3 | e3
       · exact e.1.2 e3
       · have := e.2; simp at e3; omega)
   have HG4 : Hid (Chg Non w w2) := Lib.hid ((HG3.out.alloc _).then_new hg (fun x e => by have := hgo x e; omega))
   have HB04 := Lib.hid (blk_keep (blk_keep HB03.out ((Chg.refl Non _).alloc _) (fun e => e)) hg (fun e => by have := hgo _ e; omega))
   have HB14 := Lib.hid (blk_keep (blk_keep HB13.out ((Chg.refl Non _).alloc _) (fun e => e)) hg (fun e => by have := hgo _ e; omega))
   obtain ⟨A6, c6, hv6, hl6, hm6, _⟩ := ho.rd
   obtain ⟨n6, hn6⟩ : ∃ q, (l ++ [m]).length = q := ⟨_, rfl⟩
   rw [hn6] at hv6
   subst hv6
   have f5 := blk_cell HB04.out 5 (v := .slice (some ⟨b, o, none⟩) 1 c) rfl
   have z5 := blk_free HB04.out 5
   have hlt4 := blk_lt HB04.out
   have hlt14 := blk_lt HB14.out
   clear ho hg hv hn6 hl6
   go_wp2_with (refine sel (some 44) (.load 95 _) ?_; refine Vm_stop ?_)
   refine HoleV.mk ?_
   have hst := chg_set w2 w.heap.size 5 (.slice A6 n6 c6)
   have HB05 := Lib.hid (blk_set 5 (.slice A6 n6 c6) HB04.out)
   have HB15 := Lib.hid (blk_keep HB14.out hst (fun e => by omega))
   have HO5 := Lib.hid (HO4.out.keep hst (fun g e e2 => by have := (HO4.out.ge e).1; omega) (fun a vs h => h.keep hst (fun b e e2 => by have := e.1; omega)))
   have HG5 := Lib.hid (HG4.out.then_new hst (fun x e => by omega))
   generalize w2.setCell ⟨w.heap.size, 5, none⟩ (.slice A6 n6 c6) = w5 at HB05 HB15 HO5 HG5 ⊢
   clear hst f5 z5
   refine wpList_load_mid rfl 95 (.tmp 2) rfl w.heap.size 0 rfl [.int .i64 i, .int .i64 s, .int .i64 d, .int .i64 cap, .int .i64 sz, .slice A6 n6 c6] _ (blk_range HB05.out) Tryz.underlying95 rfl (by kernel_rfl) ?_
   go_wp2_with (refine sel none (.store 95 (.tmp 4) (.tmp 44)) ?_
                refine wpList_store_rowA rfl 95 (.tmp 4) (.tmp 44) rfl (w.heap.size + 1) #[.int .i64 i, .int .i64 s, .int .i64 d, .int .i64 cap, .int .i64 sz, .slice A6 n6 c6] rfl rfl 95 _ HB15.out (by kernel_rfl) rfl (by simp [Value.oneCell']) ?_
                intro W hgW hbW)
   refine bodyPost_ret (res_ct Tryz.results271 _ _ (w.heap.size + 1) 95 #[.int .i64 i, .int .i64 s, .int .i64 d, .int .i64 cap, .int .i64 sz, .slice A6 n6 c6] (0, 0) _ _ rfl rfl hbW Tryz.underlying95 rfl (by kernel_rfl)) (by kernel_rfl) ⟨.slice A6 n6 c6, ?_, ?_, HG5.out.then_new hgW (fun x e => by omega)⟩
   ·rfl
   ·rw [HL.out]
    exact ((HO5.out.keep hgW (fun g e e2 => by have := (HO5.out.ge e).1; omega) (fun a vs h => h.keep hgW (fun b e e2 => by have := e.1; omega))).base (by omega)).mono (fun a vs h => h.mono (fun b e => ⟨by have := e.1; omega, e.2⟩))
  ·obtain ⟨k, rfl⟩ : ∃ k, n = k + 2 := ⟨n - 2, by omega⟩
   have hl3 : l.length = k + 1 := by omega
   have HCop := Lib.hid (copied_ok J (some ⟨b, o + 1, none⟩) l (k + 1) u (by rw [← hl2]; exact HR0.out.drop 1) (by omega) (by unfold maxLen; omega) (by omega))
   rw [hl3] at HCop
   clear hl he hl2 hn h1
   go_wp2_with fail
   refine HCop.out.mono ?_
   rintro e u2 ⟨lv, rfl, hlo, hg2⟩
   have HG2 := Lib.hid (HG.out.then_non hg2)
   have HO2 := Lib.hid hlo
   have HB02 := Lib.hid (blk_keep HB0.out hg2 (fun e => e))
   have HB12 := Lib.hid (blk_keep HB1.out hg2 (fun e => e))
   have hs2 := hg2.size
   clear hlo hg2 f3 f4 f5
   go_wp2_with fail
   refine (SlClone_ok A2 m c2 u2 (HRm.out.non HG2.out) (by omega)).mono ?_
   rintro e u3 ⟨A5, c5, rfl, q1, q2, q3, hg⟩
   have HG3 := Lib.hid (HG2.out.then_non hg)
   have HO3 := Lib.hid (HO2.out.non hg (fun a vs h => h.keep hg (fun _ _ e => e)))
   have HM3 := Lib.hid q3
   have HB03 := Lib.hid (blk_keep HB02.out hg (fun e => e))
   have HB13 := Lib.hid (blk_keep HB12.out hg (fun e => e))
   have hsz3 := hg.size
   have hlt0 := blk_lt HB02.out
   have hlt1 := blk_lt HB12.out
   clear hg q3
   go_wp2_with (first
     | (refine sel (some 42) (.call _) ?_; refine Vm_stop ?_))
   refine HoleV.mk ?_
   refine wpList_snocL (msgV (fun b => Exc (w.heap.size + 2) lv b ∧ b < u3.heap.size)) rfl (.tmp 38) (.tmp 41) 79 rfl (w.heap.size + 2) 50 _ 1 24 Tryz.underlying79 info_clBy rfl (by omega) lv l rfl (((HO3.out.base (B' := w.heap.size + 2) (by omega)).mono (fun _ _ h => h.bound.mono (fun b e => ⟨⟨by have := e.1.1; omega, e.1.2⟩, e.2⟩))).non ((Chg.refl Non u3).alloc _) (fun _ _ h => h.keep ((Chg.refl Non u3).alloc _) (fun _ _ e => e))) u3.heap.size m #[.slice A5 m.length c5] 50 rfl (blk_new _ _) rfl (by simp [Value.oneCell']) (by omega) (by omega) (by simp; omega) (fun _ _ _ hg h => h.keep hg (fun b e => e.1.2)) ?_ ?_
   ·refine ⟨_, rfl, ((own_bytes HM3.out q1 q2).bound.non ((Chg.refl Non u3).alloc _)).mono (fun b e => ⟨⟨?_, fun e2 => ?_⟩, e.2⟩), by omega⟩
    ·have h1 : u2.heap.size ≤ b := e.1
     omega
    ·have h1 : u2.heap.size ≤ b := e.1
     have := (HO2.out.ge e2).2
     omega
   intro v2 w2 ho hg hv
   have hgo : ∀ x, lv.ownBlock = some x → w.heap.size + 2 ≤ x ∧ x < u2.heap.size := fun x e => by have := HO2.out.ge e; omega
   have HO4 : Hid (OwnL (msgV (Exc (w.heap.size + 2) v2)) (w.heap.size + 2) 50 1 w2 v2 (l ++ [m])) := Lib.hid (by
     refine ho.mono (fun a vs h => h.mono (fun b e => ⟨?_, fun e2 => ?_⟩))
     · exact e.1.1
     · rcases hv b e2 with e3 | e3
       · exact e.1.2 e3
       · have := e.2; simp at e3; omega)
   have HG4 : Hid (Chg Non w w2) := Lib.hid ((HG3.out.alloc _).then_new hg (fun x e => by have := hgo x e; omega))
   have HB04 := Lib.hid (blk_keep (blk_keep HB03.out ((Chg.refl Non _).alloc _) (fun e => e)) hg (fun e => by have := hgo _ e; omega))
   have HB14 := Lib.hid (blk_keep (blk_keep HB13.out ((Chg.refl Non _).alloc _) (fun e => e)) hg (fun e => by have := hgo _ e; omega))
   obtain ⟨A6, c6, hv6, hl6, hm6, _⟩ := ho.rd
   obtain ⟨n6, hn6⟩ : ∃ q, (l ++ [m]).length = q := ⟨_, rfl⟩
   rw [hn6] at hv6
   subst hv6
   have f5 := blk_cell HB04.out 5 (v := .slice (some ⟨b, o, none⟩) (k + 2) c) rfl
   have z5 := blk_free HB04.out 5
   have hlt4 := blk_lt HB04.out
   have hlt14 := blk_lt HB14.out
   clear ho hg hv hn6 hl6
   go_wp2_with (refine sel (some 44) (.load 95 _) ?_; refine Vm_stop ?_)
   refine HoleV.mk ?_
   have hst := chg_set w2 w.heap.size 5 (.slice A6 n6 c6)
   have HB05 := Lib.hid (blk_set 5 (.slice A6 n6 c6) HB04.out)
   have HB15 := Lib.hid (blk_keep HB14.out hst (fun e => by omega))
   have HO5 := Lib.hid (HO4.out.keep hst (fun g e e2 => by have := (HO4.out.ge e).1; omega) (fun a vs h => h.keep hst (fun b e e2 => by have := e.1; omega)))
   have HG5 := Lib.hid (HG4.out.then_new hst (fun x e => by omega))
   generalize w2.setCell ⟨w.heap.size, 5, none⟩ (.slice A6 n6 c6) = w5 at HB05 HB15 HO5 HG5 ⊢
   clear hst f5 z5
   refine wpList_load_mid rfl 95 (.tmp 2) rfl w.heap.size 0 rfl [.int .i64 i, .int .i64 s, .int .i64 d, .int .i64 cap, .int .i64 sz, .slice A6 n6 c6] _ (blk_range HB05.out) Tryz.underlying95 rfl (by kernel_rfl) ?_
   go_wp2_with (refine sel none (.store 95 (.tmp 4) (.tmp 44)) ?_
                refine wpList_store_rowA rfl 95 (.tmp 4) (.tmp 44) rfl (w.heap.size + 1) #[.int .i64 i, .int .i64 s, .int .i64 d, .int .i64 cap, .int .i64 sz, .slice A6 n6 c6] rfl rfl 95 _ HB15.out (by kernel_rfl) rfl (by simp [Value.oneCell']) ?_
                intro W hgW hbW)
   refine bodyPost_ret (res_ct Tryz.results271 _ _ (w.heap.size + 1) 95 #[.int .i64 i, .int .i64 s, .int .i64 d, .int .i64 cap, .int .i64 sz, .slice A6 n6 c6] (0, 0) _ _ rfl rfl hbW Tryz.underlying95 rfl (by kernel_rfl)) (by kernel_rfl) ⟨.slice A6 n6 c6, ?_, ?_, HG5.out.then_new hgW (fun x e => by omega)⟩
   ·rfl
   ·rw [HL.out]
    exact ((HO5.out.keep hgW (fun g e e2 => by have := (HO5.out.ge e).1; omega) (fun a vs h => h.keep hgW (fun b e e2 => by have := e.1; omega))).base (by omega)).mono (fun a vs h => h.mono (fun b e => ⟨by have := e.1; omega, e.2⟩))
 ·have hde : ((n : Int) == cap) = false := by simpa using he
  have hl2 : ms = l := by rw [← hl, if_neg (by rw [hn]; exact he)]
  have hl1 : l.length = n := by rw [← hl2, hn]
  have HCop := Lib.hid (copied_ok J A l n u (by rw [← hl2]; exact HR0.out) (by omega) (by unfold maxLen; omega) (by omega))
  rw [hl1] at HCop
  clear hl he hl2 hn
  go_wp2_with fail
  refine HCop.out.mono ?_
  rintro e u2 ⟨lv, rfl, hlo, hg2⟩
  have HG2 := Lib.hid (HG.out.then_non hg2)
  have HO2 := Lib.hid hlo
  have HB02 := Lib.hid (blk_keep HB0.out hg2 (fun e => e))
  have HB12 := Lib.hid (blk_keep HB1.out hg2 (fun e => e))
  have hs2 := hg2.size
  clear hlo hg2 f3 f4 f5
  go_wp2_with fail
  refine (SlClone_ok A2 m c2 u2 (HRm.out.non HG2.out) (by omega)).mono ?_
  rintro e u3 ⟨A5, c5, rfl, q1, q2, q3, hg⟩
  have HG3 := Lib.hid (HG2.out.then_non hg)
  have HO3 := Lib.hid (HO2.out.non hg (fun a vs h => h.keep hg (fun _ _ e => e)))
  have HM3 := Lib.hid q3
  have HB03 := Lib.hid (blk_keep HB02.out hg (fun e => e))
  have HB13 := Lib.hid (blk_keep HB12.out hg (fun e => e))
  have hsz3 := hg.size
  have hlt0 := blk_lt HB02.out
  have hlt1 := blk_lt HB12.out
  clear hg q3
  go_wp2_with (first
    | (refine sel (some 42) (.call _) ?_; refine Vm_stop ?_))
  refine HoleV.mk ?_
  refine wpList_snocL (msgV (fun b => Exc (w.heap.size + 2) lv b ∧ b < u3.heap.size)) rfl (.tmp 38) (.tmp 41) 79 rfl (w.heap.size + 2) 50 _ 1 24 Tryz.underlying79 info_clBy rfl (by omega) lv l rfl (((HO3.out.base (B' := w.heap.size + 2) (by omega)).mono (fun _ _ h => h.bound.mono (fun b e => ⟨⟨by have := e.1.1; omega, e.1.2⟩, e.2⟩))).non ((Chg.refl Non u3).alloc _) (fun _ _ h => h.keep ((Chg.refl Non u3).alloc _) (fun _ _ e => e))) u3.heap.size m #[.slice A5 m.length c5] 50 rfl (blk_new _ _) rfl (by simp [Value.oneCell']) (by omega) (by omega) (by simp; omega) (fun _ _ _ hg h => h.keep hg (fun b e => e.1.2)) ?_ ?_
  ·refine ⟨_, rfl, ((own_bytes HM3.out q1 q2).bound.non ((Chg.refl Non u3).alloc _)).mono (fun b e => ⟨⟨?_, fun e2 => ?_⟩, e.2⟩), by omega⟩
   ·have h1 : u2.heap.size ≤ b := e.1
    omega
   ·have h1 : u2.heap.size ≤ b := e.1
    have := (HO2.out.ge e2).2
    omega
  intro v2 w2 ho hg hv
  have hgo : ∀ x, lv.ownBlock = some x → w.heap.size + 2 ≤ x ∧ x < u2.heap.size := fun x e => by have := HO2.out.ge e; omega
  have HO4 : Hid (OwnL (msgV (Exc (w.heap.size + 2) v2)) (w.heap.size + 2) 50 1 w2 v2 (l ++ [m])) := Lib.hid (by
    refine ho.mono (fun a vs h => h.mono (fun b e => ⟨?_, fun e2 => ?_⟩))
    · exact e.1.1
    · rcases hv b e2 with e3 | e3
      · exact e.1.2 e3
      · have := e.2; simp at e3; omega)
  have HG4 : Hid (Chg Non w w2) := Lib.hid ((HG3.out.alloc _).then_new hg (fun x e => by have := hgo x e; omega))
  have HB04 := Lib.hid (blk_keep (blk_keep HB03.out ((Chg.refl Non _).alloc _) (fun e => e)) hg (fun e => by have := hgo _ e; omega))
  have HB14 := Lib.hid (blk_keep (blk_keep HB13.out ((Chg.refl Non _).alloc _) (fun e => e)) hg (fun e => by have := hgo _ e; omega))
  obtain ⟨A6, c6, hv6, hl6, hm6, _⟩ := ho.rd
  obtain ⟨n6, hn6⟩ : ∃ q, (l ++ [m]).length = q := ⟨_, rfl⟩
  rw [hn6] at hv6
  subst hv6
  have f5 := blk_cell HB04.out 5 (v := .slice A n c) rfl
  have z5 := blk_free HB04.out 5
  have hlt4 := blk_lt HB04.out
  have hlt14 := blk_lt HB14.out
  clear ho hg hv hn6 hl6
  go_wp2_with (refine sel (some 44) (.load 95 _) ?_; refine Vm_stop ?_)
  refine HoleV.mk ?_
  have hst := chg_set w2 w.heap.size 5 (.slice A6 n6 c6)
  have HB05 := Lib.hid (blk_set 5 (.slice A6 n6 c6) HB04.out)
  have HB15 := Lib.hid (blk_keep HB14.out hst (fun e => by omega))
  have HO5 := Lib.hid (HO4.out.keep hst (fun g e e2 => by have := (HO4.out.ge e).1; omega) (fun a vs h => h.keep hst (fun b e e2 => by have := e.1; omega)))
  have HG5 := Lib.hid (HG4.out.then_new hst (fun x e => by omega))
  generalize w2.setCell ⟨w.heap.size, 5, none⟩ (.slice A6 n6 c6) = w5 at HB05 HB15 HO5 HG5 ⊢
  clear hst f5 z5
  refine wpList_load_mid rfl 95 (.tmp 2) rfl w.heap.size 0 rfl [.int .i64 i, .int .i64 s, .int .i64 d, .int .i64 cap, .int .i64 sz, .slice A6 n6 c6] _ (blk_range HB05.out) Tryz.underlying95 rfl (by kernel_rfl) ?_
  go_wp2_with (refine sel none (.store 95 (.tmp 4) (.tmp 44)) ?_
               refine wpList_store_rowA rfl 95 (.tmp 4) (.tmp 44) rfl (w.heap.size + 1) #[.int .i64 i, .int .i64 s, .int .i64 d, .int .i64 cap, .int .i64 sz, .slice A6 n6 c6] rfl rfl 95 _ HB15.out (by kernel_rfl) rfl (by simp [Value.oneCell']) ?_
               intro W hgW hbW)
  refine bodyPost_ret (res_ct Tryz.results271 _ _ (w.heap.size + 1) 95 #[.int .i64 i, .int .i64 s, .int .i64 d, .int .i64 cap, .int .i64 sz, .slice A6 n6 c6] (0, 0) _ _ rfl rfl hbW Tryz.underlying95 rfl (by kernel_rfl)) (by kernel_rfl) ⟨.slice A6 n6 c6, ?_, ?_, HG5.out.then_new hgW (fun x e => by omega)⟩
  ·rfl
  ·rw [HL.out]
   exact ((HO5.out.keep hgW (fun g e e2 => by have := (HO5.out.ge e).1; omega) (fun a vs h => h.keep hgW (fun b e e2 => by have := e.1; omega))).base (by omega)).mono (fun a vs h => h.mono (fun b e => ⟨by have := e.1; omega, e.2⟩))
set_option maxRecDepth 100000 in
theorem take_none (J : Nat → Prop) (q : Qu) (v : Value) (w : World) (hq : SlV (msgV J) J 1 w q.msgs v) (hmay : mayQ q = true) (hn : q.msgs = []) :
  Calls Tryz.prog 272 #[.agg (q.L v).toArray] w fun e w' => e = .returned (.tuple #[.slice none 0 0, .agg zeroQu, .int .i64 100]) ∧ Chg Non w w' := by
 have HM := Lib.hid (fun W (hg : Chg Non w W) => mayQueue_ok J q v W (hq.non hg (fun a vs h => msgV_non _ _ _ _ hg h)))
 obtain ⟨A, c, rfl, hc, hcm, hr⟩ := hq
 rw [hmay] at HM
 obtain ⟨⟨i, s, d, cap, sz⟩, ms⟩ := q
 simp only at hn
 subst hn
 clear hr hmay
 show Calls _ _ #[.agg #[.int .i64 i, .int .i64 s, .int .i64 d, .int .i64 cap, .int .i64 sz, .slice A 0 c]] _ _
 replace HM : Hid (∀ W, Chg Non w W → Calls Tryz.prog 125 #[.agg #[.int .i64 i, .int .i64 s, .int .i64 d, .int .i64 cap, .int .i64 sz, .slice A 0 c]] W fun e w' => e = .returned (.bool true) ∧ Chg Non W w') := HM
 go_enter Tryz.func272, Tryz.ntmps272
 go_wp2_with (refine sel (some 7) (.load 95 _) ?_; refine wpList_load_mid rfl 95 (.tmp 1) rfl w.heap.size 0 rfl [.int .i64 i, .int .i64 s, .int .i64 d, .int .i64 cap, .int .i64 sz, .slice A 0 c] _ (blk_range (heap_alloc2_old w _ _)) Tryz.underlying95 rfl (by kernel_rfl) ?_)
 refine (HM.out _ (((Chg.refl Non w).alloc _).alloc _)).mono ?_
 rintro e u ⟨rfl, hg⟩
 obtain ⟨hb0, hb1, hlt, hgw⟩ := blk_call2 hg
 have HB1 := Lib.hid hb1
 have HG := Lib.hid hgw
 have f5 := blk_cell hb0 5 (v := .slice A 0 c) rfl
 clear hg hb0 hb1 hgw
 go_wp2_with (first
   | (refine sel (some 16) (.build 95 _) ?_; refine wpList_valA rfl (some 16) (.agg zeroQu) rfl (by kernel_rfl) ?_)
   | (refine sel none (.store 95 (.tmp 3) (.tmp 16)) ?_
      refine wpList_store_rowA rfl 95 (.tmp 3) (.tmp 16) rfl (w.heap.size + 1) zeroQu rfl rfl 95 _ HB1.out (by kernel_rfl) rfl (by simp [zeroQu, Value.oneCell']) ?_
      intro W hgW hbW))
 exact bodyPost_ret (res_tct Tryz.results272 _ _ (w.heap.size + 1) 95 zeroQu (0, 0) _ _ _ rfl rfl rfl hbW Tryz.underlying95 rfl (by kernel_rfl)) (by kernel_rfl) ⟨rfl, HG.out.then_new hgW (fun x e => by omega)⟩
theorem BytesV.keep2 {C D : Nat} {w V W : World} {g : Nat} {l : List UInt8} {v : Value} (hb : BytesV (fun b => C ≤ b) w l v) (h1 : Chg (fun b => b = g) w V) (h2 : Chg (fun b => b = g + 1) V W) (hg : D + 1 < C) (he : g = D) : BytesV (From D) W l v :=
 ((hb.keep h1 (fun b e e2 => by have : C ≤ b := e; omega)).keep h2 (fun b e e2 => by have : C ≤ b := e; omega)).mono (fun b e => by show D ≤ b; have : C ≤ b := e; omega)
theorem SlV.keep2 {C D : Nat} {w V W : World} {g : Nat} {l : List (List UInt8)} {v : Value} (hb : SlV (msgV (fun b => C ≤ b)) (fun b => C ≤ b) 1 w l v) (h1 : Chg (fun b => b = g) w V) (h2 : Chg (fun b => b = g + 1) V W) (hg : D + 1 < C) (he : g = D) : SlV (msgV (From D)) (From D) 1 W l v := by
 have k1 : ∀ b, C ≤ b → ¬ b = g := fun b e e2 => by omega
 have k2 : ∀ b, C ≤ b → ¬ b = g + 1 := fun b e e2 => by omega
 exact ((hb.keep h1 k1 (fun _ _ _ h => h.keep h1 k1)).keep h2 k2 (fun _ _ _ h => h.keep h2 k2)).mono (fun b e => by show D ≤ b; omega) (fun _ _ _ h => h.mono (fun b e => by show D ≤ b; omega))
set_option maxRecDepth 100000 in
theorem take_yes (J : Nat → Prop) (q : Qu) (v : Value) (w : World) (m : List UInt8) (rest : List (List UInt8)) (hq : SlV (msgV J) J 1 w q.msgs v) (hmay : mayQ q = true) (hmr : q.msgs = m :: rest) :
  Calls Tryz.prog 272 #[.agg (q.L v).toArray] w fun e w' => ∃ A5 c5 v', e = .returned (.tuple #[.slice A5 m.length c5, .agg (({ q with msgs := rest } : Qu).L v').toArray, .int .i64 0]) ∧ BytesV (From w.heap.size) w' m (.slice A5 m.length c5) ∧ SlV (msgV (From w.heap.size)) (From w.heap.size) 1 w' rest v' ∧ Chg Non w w' := by
 have HM := Lib.hid (fun W (hg : Chg Non w W) => mayQueue_ok J q v W (hq.non hg (fun a vs h => msgV_non _ _ _ _ hg h)))
 obtain ⟨A, c, rfl, hc, hcm, hr⟩ := hq
 have hcap := (mayQ_iff.1 hmay)
 have hcp := ch_may hcap.1
 have hml := hcap.2.1
 rw [hmay] at HM
 obtain ⟨⟨i, s, d, cap, sz⟩, ms⟩ := q
 simp only at hmr hc hr hcp hml
 subst hmr
 clear hmay hcap
 unfold maxLen at hcm
 have HR := Lib.hid hr
 clear hr
 obtain ⟨n, hn⟩ : ∃ n, (m :: rest).length = n := ⟨_, rfl⟩
 have hn1 : rest.length + 1 = n := by rw [← hn]; simp
 have HRl : Hid ((m :: rest).length = n) := Lib.hid hn
 rw [hn] at hc hml HM
 show Calls _ _ #[.agg #[.int .i64 i, .int .i64 s, .int .i64 d, .int .i64 cap, .int .i64 sz, .slice A (m :: rest).length c]] _ _
 rw [hn]
 clear hn
 replace HM : Hid (∀ W, Chg Non w W → Calls Tryz.prog 125 #[.agg #[.int .i64 i, .int .i64 s, .int .i64 d, .int .i64 cap, .int .i64 sz, .slice A n c]] W fun e w' => e = .returned (.bool true) ∧ Chg Non W w') := Lib.hid (fun W hg => by have := HM.out W hg; simp only [Qu.L, HRl.out] at this; exact this)
 have hn0 : ((n : Int) == 0) = false := by simp; omega
 go_enter Tryz.func272, Tryz.ntmps272
 go_wp2_with (refine sel (some 7) (.load 95 _) ?_; refine wpList_load_mid rfl 95 (.tmp 1) rfl w.heap.size 0 rfl [.int .i64 i, .int .i64 s, .int .i64 d, .int .i64 cap, .int .i64 sz, .slice A n c] _ (blk_range (heap_alloc2_old w _ _)) Tryz.underlying95 rfl (by kernel_rfl) ?_)
 refine (HM.out _ (((Chg.refl Non w).alloc _).alloc _)).mono ?_
 rintro e u ⟨rfl, hg⟩
 obtain ⟨hb0, hb1, hlt, hgw⟩ := blk_call2 hg
 have HB0 := Lib.hid hb0
 have HB1 := Lib.hid hb1
 have HG := Lib.hid hgw
 have f5 := blk_cell hb0 5 (v := .slice A n c) rfl
 have hcop := copied_ok J A (m :: rest) c u (HR.out.non hgw (fun a vs h => msgV_non _ _ _ _ hgw h)) (by rw [HRl.out]; exact hc) (by unfold maxLen; omega) (by rw [HRl.out]; omega)
 rw [HRl.out] at hcop
 have HCop := Lib.hid hcop
 have hus := HG.out.size
 clear hg hb0 hb1 hgw hcop
 go_wp2_with fail
 refine HCop.out.mono ?_
 rintro e u2 ⟨lv, rfl, hlo, hg2⟩
 have HG2 := Lib.hid (HG.out.then_non hg2)
 have HB02 := Lib.hid (blk_keep HB0.out hg2 (fun e => e))
 have HB12 := Lib.hid (blk_keep HB1.out hg2 (fun e => e))
 have hs2 := hg2.size
 obtain ⟨gl, cap2, cur, rfl, hBl, hgb, l1, l2, l3, hat⟩ := hlo.shape (by simp)
 obtain ⟨vs, hvl, hrg, mv, rfl, hbm, _⟩ := hat 0 m rfl
 have hel0 : u2.cell? ⟨gl, 0, none⟩ = some mv := by have := hrg 0 mv rfl; simpa using this
 have HBm := Lib.hid (hbm.mono (fun b e => e.1) : BytesV (fun b => u.heap.size ≤ b) u2 m mv)
 obtain ⟨A5, c5, rfl, _, _, _, _⟩ := hbm
 have hgu2 := blk_lt hgb
 have HSl : Hid (SlV (msgV (fun b => u.heap.size ≤ b)) (fun b => u.heap.size ≤ b) 1 u2 (m :: rest) (.slice (some ⟨gl, 0, none⟩) (m :: rest).length cap2)) := Lib.hid ⟨_, _, rfl, l1, l2, (fun i a ha => by
   obtain ⟨vs, h1, h2, h3⟩ := hat i a ha
   exact ⟨gl, 0, vs, rfl, hBl, h1, by rw [Nat.zero_add]; exact h2, h3.mono (fun b e => e.1)⟩)⟩
 have f5 := blk_cell HB02.out 5 (v := .slice A n c) rfl
 have z5 := blk_free HB02.out 5
 rw [HRl.out] at l1
 have hgl2 : w.heap.size + 1 < gl := by omega
 have hus1 : w.heap.size + 1 < u.heap.size := by omega
 rw [HRl.out]
 clear hlo hg2 hat hrg hvl l3 hgb HG HB0 HB1
 by_cases h1 : n = 1
 ·subst h1
  have hr0 : rest = [] := List.eq_nil_of_length_eq_zero (by omega)
  go_wp2_with fail
  have hst := chg_set u2 w.heap.size 5 (.slice (some ⟨gl, 0, none⟩) 0 0)
  obtain ⟨V, hV⟩ : ∃ V, V = (u2.setCell ⟨w.heap.size, 5, none⟩ (.slice (some ⟨gl, 0, none⟩) 0 0)).drew := ⟨_, rfl⟩
  have hgV : Chg (fun b => b = w.heap.size) u2 V := by rw [hV]; exact hst.drew
  have HB05 : Hid (V.heap[w.heap.size]? = some (.cells #[.int .i64 i, .int .i64 s, .int .i64 d, .int .i64 cap, .int .i64 sz, .slice (some ⟨gl, 0, none⟩) 0 0] 95 (0, 0))) := Lib.hid (by rw [hV]; exact blk_set 5 _ HB02.out)
  have HB15 := Lib.hid (blk_keep HB12.out hgV (fun e => by omega))
  have hel : V.cell? ⟨gl, 0, none⟩ = some (.slice A5 m.length c5) := hgV.cell_some hel0 (fun e => by have e : gl = w.heap.size := e; omega)
  have hgln : ¬ (⟨gl, 0, none⟩ : Addr).block = w.heap.size + 1 := fun e => by have e : gl = w.heap.size + 1 := e; omega
  have HGV := Lib.hid (HG2.out.then_new hgV (fun x e => by omega))
  refine wp_region_held_drew (S := Chg (fun b => b = w.heap.size + 1) (u2.setCell ⟨w.heap.size, 5, none⟩ (.slice (some ⟨gl, 0, none⟩) 0 0)).drew) (by kernel_rfl) (Chg.refl _ _) (fun hHeld => ?_)
  clear hHeld
  rw [← hV]
  clear hV hst
  refine hp 0 27 (.slice (some ⟨gl, 0, none⟩) 1 cap2) rfl (Chg.refl _ _) ?_
  refine hp 1 28 (.pointer (some ⟨gl, 0, none⟩)) rfl (Chg.refl _ _) ?_ (he := (fun W hW => by go_simp <;> (intro h; omega)))
  refine hp 2 29 (.slice A5 m.length c5) rfl (Chg.refl _ _) ?_ (he := (fun W hW => by have hc := hW.cell_some hel hgln; go_simp))
  refine h_load 3 (some 30) 95 (.tmp 1) w.heap.size 0 #[.int .i64 i, .int .i64 s, .int .i64 d, .int .i64 cap, .int .i64 sz, .slice (some ⟨gl, 0, none⟩) 0 0] _ rfl (by kernel_rfl) (by kernel_rfl) (by kernel_rfl) (by kernel_rfl) (by kernel_rfl) (fun _ _ _ h => h) (by kernel_rfl) (by kernel_rfl) (fun W hW => range_keepS (blk_range HB05.out) hW (by omega)) Tryz.underlying95 rfl (by kernel_rfl) (Chg.refl _ _) ?_
  simp only [Act.put, sA, sB, sC]
  refine hp 4 2 (.slice A5 m.length c5) rfl (Chg.refl _ _) ?_
  refine h_store 5 95 (.tmp 3) (.tmp 30) (w.heap.size + 1) #[.int .i64 i, .int .i64 s, .int .i64 d, .int .i64 cap, .int .i64 sz, .slice (some ⟨gl, 0, none⟩) 0 0] (by kernel_rfl) rfl (by kernel_rfl) rfl rfl rfl rfl 95 ⟨_, HB15.out, rfl⟩ (by kernel_rfl) (by simp [Value.oneCell']) (fun W hg hb => hg) ?_
  intro W hgW hbW
  refine hp 6 4 (.int .i64 0) rfl hgW ?_
  refine wpAnyH_done (by kernel_rfl) ?_ _
  go_wp2_with fail
  refine bodyPost_ret (res_tct Tryz.results272 _ _ (w.heap.size + 1) 95 #[.int .i64 i, .int .i64 s, .int .i64 d, .int .i64 cap, .int .i64 sz, .slice (some ⟨gl, 0, none⟩) 0 0] (0, 0) _ _ _ rfl rfl rfl hbW Tryz.underlying95 rfl (by kernel_rfl)) rfl ⟨A5, c5, _, rfl, HBm.out.keep2 (D := w.heap.size) hgV hgW (by omega) rfl, ?_, HGV.out.then_new hgW (fun x e => by omega)⟩
  (first | rw [hr0] | skip); exact ⟨_, _, rfl, Nat.le_refl _, by unfold maxLen; omega, RdL.nil _ _ _ _ _⟩
 ·obtain ⟨k, rfl⟩ : ∃ k, n = k + 2 := ⟨n - 2, by omega⟩
  have hrl : rest.length = k + 1 := by omega
  clear h1
  go_wp2_with fail
  have hst := chg_set u2 w.heap.size 5 (.slice (some ⟨gl, 1, none⟩) (k + 1) (k + 1))
  obtain ⟨V, hV⟩ : ∃ V, V = (u2.setCell ⟨w.heap.size, 5, none⟩ (.slice (some ⟨gl, 1, none⟩) (k + 1) (k + 1))).drew := ⟨_, rfl⟩
  have hgV : Chg (fun b => b = w.heap.size) u2 V := by rw [hV]; exact hst.drew
  have HB05 : Hid (V.heap[w.heap.size]? = some (.cells #[.int .i64 i, .int .i64 s, .int .i64 d, .int .i64 cap, .int .i64 sz, .slice (some ⟨gl, 1, none⟩) (k + 1) (k + 1)] 95 (0, 0))) := Lib.hid (by rw [hV]; exact blk_set 5 _ HB02.out)
  have HB15 := Lib.hid (blk_keep HB12.out hgV (fun e => by omega))
  have hel : V.cell? ⟨gl, 0, none⟩ = some (.slice A5 m.length c5) := hgV.cell_some hel0 (fun e => by have e : gl = w.heap.size := e; omega)
  have hgln : ¬ (⟨gl, 0, none⟩ : Addr).block = w.heap.size + 1 := fun e => by have e : gl = w.heap.size + 1 := e; omega
  have HGV := Lib.hid (HG2.out.then_new hgV (fun x e => by omega))
  refine wp_region_held_drew (S := Chg (fun b => b = w.heap.size + 1) (u2.setCell ⟨w.heap.size, 5, none⟩ (.slice (some ⟨gl, 1, none⟩) (k + 1) (k + 1))).drew) (by kernel_rfl) (Chg.refl _ _) (fun hHeld => ?_)
  clear hHeld
  rw [← hV]
  clear hV hst
  refine hp 0 27 (.slice (some ⟨gl, 0, none⟩) (k + 2) cap2) rfl (Chg.refl _ _) ?_
  refine hp 1 28 (.pointer (some ⟨gl, 0, none⟩)) rfl (Chg.refl _ _) ?_ (he := (fun W hW => by go_simp <;> (intro h; omega)))
  refine hp 2 29 (.slice A5 m.length c5) rfl (Chg.refl _ _) ?_ (he := (fun W hW => by have hc := hW.cell_some hel hgln; go_simp))
  refine h_load 3 (some 30) 95 (.tmp 1) w.heap.size 0 #[.int .i64 i, .int .i64 s, .int .i64 d, .int .i64 cap, .int .i64 sz, .slice (some ⟨gl, 1, none⟩) (k + 1) (k + 1)] _ rfl (by kernel_rfl) (by kernel_rfl) (by kernel_rfl) (by kernel_rfl) (by kernel_rfl) (fun _ _ _ h => h) (by kernel_rfl) (by kernel_rfl) (fun W hW => range_keepS (blk_range HB05.out) hW (by omega)) Tryz.underlying95 rfl (by kernel_rfl) (Chg.refl _ _) ?_
  simp only [Act.put, sA, sB, sC]
  refine hp 4 2 (.slice A5 m.length c5) rfl (Chg.refl _ _) ?_
  refine h_store 5 95 (.tmp 3) (.tmp 30) (w.heap.size + 1) #[.int .i64 i, .int .i64 s, .int .i64 d, .int .i64 cap, .int .i64 sz, .slice (some ⟨gl, 1, none⟩) (k + 1) (k + 1)] (by kernel_rfl) rfl (by kernel_rfl) rfl rfl rfl rfl 95 ⟨_, HB15.out, rfl⟩ (by kernel_rfl) (by simp [Value.oneCell']) (fun W hg hb => hg) ?_
  intro W hgW hbW
  refine hp 6 4 (.int .i64 0) rfl hgW ?_
  refine wpAnyH_done (by kernel_rfl) ?_ _
  go_wp2_with fail
  refine bodyPost_ret (res_tct Tryz.results272 _ _ (w.heap.size + 1) 95 #[.int .i64 i, .int .i64 s, .int .i64 d, .int .i64 cap, .int .i64 sz, .slice (some ⟨gl, 1, none⟩) (k + 1) (k + 1)] (0, 0) _ _ _ rfl rfl rfl hbW Tryz.underlying95 rfl (by kernel_rfl)) rfl ⟨A5, c5, _, rfl, HBm.out.keep2 (D := w.heap.size) hgV hgW (by omega) rfl, ?_, HGV.out.then_new hgW (fun x e => by omega)⟩
  exact SlV.keep2 (C := u.heap.size) (w := u2) ⟨some ⟨gl, 0 + 1 * 1, none⟩, k + 1, by rw [hrl], by omega, by unfold maxLen; omega, by obtain ⟨A, c, e, _, _, hr⟩ := HSl.out; injection e with e _ _; subst e; exact hr.drop 1⟩ hgV hgW (by omega) rfl
end
end Go.Proofs.YtmnaleaghfbclaaGreatDoor
