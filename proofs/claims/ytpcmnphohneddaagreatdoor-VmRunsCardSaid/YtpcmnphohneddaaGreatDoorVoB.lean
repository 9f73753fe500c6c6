/- The document's answer of layer 20 (citadelref20): copied. (Written by wip/gen_vob.py.) -/
import Derived.Test.YtpcmnphohneddaaGreatDoorVoA
import Derived.Test.YtpcmnphohneddaaGreatDoorVq6
namespace Go.Proofs.YtpcmnphohneddaaGreatDoor
open Go.RowKit
set_option linter.unusedVariables false

set_option maxRecDepth 100000 in
set_option maxHeartbeats 1000000 in
theorem rCopied_ok (p : Pt) (A : Option Addr) (l : List UInt8) (c : Nat) (w : World) (h8 : p.r.length = 8) (hr : Rd w A l) (hl : l.length ≤ 1000000) :
    Calls Tryz.prog 23 #[.agg (partC p (.slice A l.length c))] w fun e w' => ∃ A2 c2, e = .returned (.agg (partC p (.slice A2 l.length c2))) ∧ l.length ≤ c2 ∧ c2 ≤ maxLen ∧ Own w.heap.size w' A2 l ∧ Chg Non w w' := by
  have HR := Lib.hid hr
  have hp : PartB (w.alloc (.cells (partC p (.slice A l.length c)) 26)) w.heap.size p (.slice A l.length c) := ⟨heap_alloc_new _ _, h8⟩
  obtain ⟨C, hC⟩ : ∃ C, partC p (.slice A l.length c) = C := ⟨_, rfl⟩
  have hsz : C.size = 14 := by rw [← hC]; exact partC_size h8 _
  have e13 : C[13]'(by omega) = .slice A l.length c := by
    have h := partC_end h8 (.slice A l.length c) 2 (by omega)
    rw [hC] at h
    rw [Array.getElem?_eq_getElem (by omega)] at h
    simpa using h
  rw [hC] at hp ⊢
  have hg0 : Chg Non (w.alloc (.cells C 26)) (((w.alloc (.cells C 26)).alloc (.cells zeroPart 26)).alloc (.cells #[] 5)) := ((Chg.refl Non _).alloc _).alloc _
  have HP := Lib.hid (hp.non hg0)
  have HB1 := Lib.hid (al_3_1 w (.cells C 26) (.cells zeroPart 26) (.cells #[] 5))
  have c13 := (hp.non hg0).cells.2.2.2.2.2
  have HG0 : Hid (Chg Non w (((w.alloc (.cells C 26)).alloc (.cells zeroPart 26)).alloc (.cells #[] 5))) := Lib.hid ((((Chg.refl Non w).alloc _).alloc _).alloc _)
  have hoe := own_emptyR ((w.alloc (.cells C 26)).alloc (.cells zeroPart 26))
  have hs2 : ((w.alloc (.cells C 26)).alloc (.cells zeroPart 26)).heap.size = w.heap.size + 1 + 1 := by simp
  rw [hs2] at hoe
  have HOe := Lib.hid hoe
  clear hC hr hp hg0 hoe hs2
  go_enter Tryz.func23, Tryz.ntmps23
  go_wp2_with (first
    | (refine sel (some 6) (.call _) ?_; refine Vm_stop ?_))
  refine HoleV.mk ?_
  refine wpList_appB rfl (.tmp 3) (.tmp 5) rfl (w.heap.size + 1 + 1) (.slice (some ⟨w.heap.size + 1 + 1, 0, none⟩) 0 0) [] rfl HOe.out A c l rfl (HR.out.non HG0.out) (by simp) (by omega) (by simp) (by simp; omega) ?_
  intro v2 w2 ho hg hat
  have HG := Lib.hid (HG0.out.then_new hg (fun x hx => by have := HOe.out.ge hx; omega))
  obtain ⟨A2, c2, rfl, q1, q2, q3⟩ := OwnR.own ho
  rw [List.nil_append] at q1 q3 ⊢
  have HP := Lib.hid (HP.out.keep hg (fun hx => by have := HOe.out.ge hx; omega))
  have HB1 := Lib.hid (blockS HB1.out hg (fun hx => by have := HOe.out.ge hx; omega))
  have HO := Lib.hid (q3.mono (show w.heap.size + 2 ≤ _ by omega))
  have hlt := HP.out.lt
  have hf := HP.out.frozen 13
  have hc13 := HP.out.cells.2.2.2.2.2
  clear q3 ho hg hat c13 e13
  go_wp2_with (first
    | (refine sel (some 8) (.load _ _) ?_; refine Vm_stop ?_))
  refine HoleV.mk ?_
  have hp1 := HP.out.setMem (.slice A2 l.length c2)
  have HG1 := Lib.hid (HG.out.then_new (setAt w2 w.heap.size 13 (.slice A2 l.length c2)) (fun x e => by omega))
  have HO1 := Lib.hid (HO.out.keep (setAt w2 w.heap.size 13 (.slice A2 l.length c2)) (fun b' o' e1 e2 e3 e4 => by omega))
  have HB11 := Lib.hid (blockS HB1.out (setAt w2 w.heap.size 13 (.slice A2 l.length c2)) (by omega))
  have HP1 := Lib.hid hp1
  refine wpList_load_row rfl 26 (.tmp 1) rfl w.heap.size rfl 26 (partC p (.slice A2 l.length c2)) (0, 0) _ HP1.out.out Tryz.underlying26 rfl (by rw [partC_size h8]; exact info_part) ?_
  have hone : (partC p (.slice A2 l.length c2)).all (·.oneCell') = true := partC_one _ _ rfl
  refine wpList_store_rowA rfl 26 (.tmp 2) (.tmp 8) rfl (w.heap.size + 1) (partC p (.slice A2 l.length c2)) rfl rfl 26 zeroPart HB11.out (by rw [partC_size h8]; exact info_part) (by rw [partC_size h8]; rfl) hone ?_
  intro W hgW hbW
  have HBW := Lib.hid hbW
  have HG2 := Lib.hid (HG1.out.then_new hgW (fun x e => by omega))
  have HO2 := Lib.hid (HO1.out.keep hgW (fun b' o' e1 e2 e3 e4 => by omega))
  clear hbW hgW hp1
  go_wp2_with fail
  exact bodyPost_ret (results_cell_row Tryz.results23 _ _ (w.heap.size + 1) 26 _ (0, 0) _ rfl HBW.out Tryz.underlying26 rfl (by rw [partC_size h8]; exact info_part)) rfl ⟨A2, c2, rfl, q1, q2, HO2.out.mono (by omega), HG2.out⟩
/-- a step's state: the partition (in block b), the result's block, the memory -/
structure StR (w W : World) (b : Nat) (p : Pt) (A : Option Addr) (c : Nat) : Prop where
  pb : PartB W b p (.slice A p.mem.length c)
  rb : W.heap[w.heap.size + 1]? = some (.cells zeroPart 26 (0, 0))
  own : Own (w.heap.size + 2) W A p.mem
  ne : ∀ b' o', A = some ⟨b', o', none⟩ → p.mem ≠ [] → b' ≠ b
  chg : Chg Non w W
  ge : w.heap.size + 2 ≤ b
  h1 : p.mem.length ≤ c
  h2 : c ≤ maxLen
theorem StR.non {w W W' : World} {b : Nat} {p : Pt} {A : Option Addr} {c : Nat} (h : StR w W b p A c) (hg : Chg Non W W') : StR w W' b p A c :=
  ⟨h.pb.non hg, blockN hg h.rb, h.own.non hg, h.ne, h.chg.then_non hg, h.ge, h.h1, h.h2⟩
theorem StR.at {w W W' : World} {b : Nat} {p q : Pt} {A : Option Addr} {c : Nat} (h : StR w W b p A c) (hg : Chg (fun k => k = b) W W') (hq : PartB W' b q (.slice A p.mem.length c)) (hm : q.mem = p.mem) : StR w W' b q A c :=
  ⟨by rw [hm]; exact hq, blockS h.rb hg (by have := h.ge; omega), by rw [hm]; exact h.own.keep hg (fun b' o e1 e2 e3 e4 => h.ne b' o e1 e3 e4), by rw [hm]; exact h.ne, h.chg.then_new hg (fun x e => by have := h.ge; omega), h.ge, by rw [hm]; exact h.h1, h.h2⟩
theorem StR.mem {w W W' : World} {b : Nat} {p : Pt} {A A2 : Option Addr} {c c2 : Nat} {l : List UInt8} (h : StR w W b p A c) (hg : Chg (fun k => k = b) W W') (hq : PartB W' b p (.slice A2 l.length c2)) (h1 : l.length ≤ c2) (h2 : c2 ≤ maxLen) (ho : Own (w.heap.size + 2) W' A2 l) (hn : ∀ b' o', A2 = some ⟨b', o', none⟩ → l ≠ [] → b' ≠ b) : StR w W' b { p with mem := l } A2 c2 :=
  ⟨⟨hq.out, hq.len⟩, blockS h.rb hg (by have := h.ge; omega), ho, hn, h.chg.then_new hg (fun x e => by have := h.ge; omega), h.ge, h1, h2⟩
end Go.Proofs.YtpcmnphohneddaaGreatDoor
