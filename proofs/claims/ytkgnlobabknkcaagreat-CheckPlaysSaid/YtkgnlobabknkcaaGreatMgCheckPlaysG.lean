/- CheckPlays, part 7 of 27: contracts of the functions that it reaches, and the laws that they need, merged and shortened (from my texts XRef05b, XRef05c, XRef05d, XRef02, XRef07, XSeal, XRef07b). -/
import Derived.Test.YtkgnlobabknkcaaGreatMgCheckPlaysA
import Derived.Test.YtkgnlobabknkcaaGreatMgCheckPlaysD
import Derived.Test.YtkgnlobabknkcaaGreatMgCheckPlaysE
import Derived.Test.YtkgnlobabknkcaaGreatMgCheckPlaysF
import Derived.Deep.RegionHeld3
import Derived.Laws.AppendOwnNone
namespace Go.Proofs.YtkgnlobabknkcaaGreat
set_option linter.unusedVariables false
set_option linter.unusedSimpArgs false
set_option maxHeartbeats 8000000
set_option maxRecDepth 100000
section
open Go.RowKit
theorem r5_cell {w : World} {b : Nat} {C : Array Value} {t : TypeId} {fr : Nat × Nat} (h : w.heap[b]? = some (.cells C t fr)) {i : Nat} {v : Value} (hv : C[i]? = some v) : w.cell? ⟨b, i, none⟩ = some v := by
 rw [cell_of_row _ _ _ _ _ _ h]; exact hv
theorem r5_blk {w W : World} {b : Nat} {x : Obj} (hg : Chg Non w W) (h : w.heap[b]? = some x) : W.heap[b]? = some x :=
 (hg.block b (Array.getElem?_eq_some_iff.1 h).1 (fun e => e)).trans h
theorem r5_setI {w : World} {g i : Nat} {cs : Array Value} {t : TypeId} (u : Value) (h : w.heap[g]? = some (.cells cs t (0, 0))) : (w.setCell ⟨g, i, none⟩ u).heap[g]? = some (.cells (cs.setIfInBounds i u) t (0, 0)) := by
 have hlt := (Array.getElem?_eq_some_iff.1 h).1
 have h' : w.heap[g] = .cells cs t (0, 0) := by simpa [Array.getElem?_eq_getElem hlt] using h
 show (w.heap.modify g _)[g]? = _
 rw [Array.getElem?_eq_getElem (by simpa using hlt), Array.getElem_modify_self, h']
 rfl
theorem IsRd.cells {B : Nat → Prop} {p : Nat} {w : World} {l : List UInt8} {k : Nat} {er : Int} (h : IsRd B p w l k er) : ∃ A c, w.cell? ⟨p, 0, none⟩ = some (.slice A l.length c) ∧ w.cell? ⟨p, 1, none⟩ = some (.int .i64 (k : Nat)) ∧ w.cell? ⟨p, 2, none⟩ = some (.int .i64 er) ∧ p < w.heap.size ∧ (∀ i, w.frozen? ⟨p, i, none⟩ = false) ∧ l.length ≤ c ∧ c ≤ maxLen ∧ Rd w A l := by
 obtain ⟨A, c, hb, hp, h1, h2, ho⟩ := h
 refine ⟨A, c, r5_cell hb rfl, r5_cell hb rfl, r5_cell hb rfl, (Array.getElem?_eq_some_iff.1 hb).1, ?_, h1, h2, ho.rd⟩
 intro i
 simp only [World.frozen?]
 rw [hb]
 simp
theorem IsRd.non {B : Nat → Prop} {p : Nat} {w w' : World} {l : List UInt8} {k : Nat} {er : Int} (h : IsRd B p w l k er) (hg : Chg Non w w') : IsRd B p w' l k er := by
 obtain ⟨A, c, hb, hp, h1, h2, ho⟩ := h
 exact ⟨A, c, r5_blk hg hb, hp, h1, h2, ho.non hg⟩
theorem rdr_ne {w : World} {p B : Nat} {A : Option Addr} {l : List UInt8} {v : Value} {x' y' : Int} {t : TypeId} (hb : w.heap[p]? = some (.cells #[v, .int .i64 x', .int .i64 y'] t (0, 0))) (hv : ∀ z : UInt8, v ≠ .int .u8 (z.toNat : Int)) (ho : Own B w A l) : ∀ b o, A = some ⟨b, o, none⟩ → l ≠ [] → b ≠ p := by
 rintro b o rfl hl rfl
 obtain ⟨z, r, rfl⟩ := List.exists_cons_of_ne_nil hl
 obtain ⟨b', o', e, _, hc, _⟩ := ho 0 z rfl
 injection e with e
 injection e with e1 e2 _
 subst e1 e2
 simp only [World.cell?, hb, Nat.add_zero] at hc
 match o, hc with
 | 0, hc => simp at hc; exact hv z hc
 | 1, hc => simp at hc
 | 2, hc => simp at hc
 | n + 3, hc => simp at hc
theorem IsRd.setAt {B : Nat → Prop} {p : Nat} {w : World} {l : List UInt8} {k : Nat} {er : Int} (h : IsRd B p w l k er) (n : Nat) : IsRd B p (w.setCell ⟨p, 1, none⟩ (.int .i64 (n : Nat))) l n er := by
 obtain ⟨A, c, hb, hp, h1, h2, ho⟩ := h
 refine ⟨A, c, r5_setI _ hb, hp, h1, h2, ho.keep ((Chg.refl (fun x => x = p) _).setCell (p := ⟨p, 1, none⟩) (.inl rfl) _) (fun b o e1 e2 e3 => rdr_ne hb (fun z => by simp) ho b o e1 e3)⟩
theorem IsRd.setEr {B : Nat → Prop} {p : Nat} {w : World} {l : List UInt8} {k : Nat} {er : Int} (h : IsRd B p w l k er) (n : Int) : IsRd B p (w.setCell ⟨p, 2, none⟩ (.int .i64 n)) l k n := by
 obtain ⟨A, c, hb, hp, h1, h2, ho⟩ := h
 refine ⟨A, c, r5_setI _ hb, hp, h1, h2, ho.keep ((Chg.refl (fun x => x = p) _).setCell (p := ⟨p, 2, none⟩) (.inl rfl) _) (fun b o e1 e2 e3 => rdr_ne hb (fun z => by simp) ho b o e1 e3)⟩
theorem rNext_broken (B : Nat → Prop) (p n : Nat) (l : List UInt8) (k : Nat) (er : Int) (he : er ≠ 0) (w : World) (h : IsRd B p w l k er) (hl : l.length ≤ 65536) :
  Calls Tryz.prog 127 #[.pointer (some ⟨p, 0, none⟩), .int .i64 n] w fun e w' => e = .returned (.tuple #[.slice none 0 0, .bool false]) ∧ w = w' := by
 obtain ⟨A, c, c0, c1, c2, _, _, _⟩ := h.cells
 have hb : (er != 0) = true := by rw [bne_iff_ne]; exact he
 clear h
 go_enter Tryz.func127, Tryz.ntmps127
 go_wp2_with fail
 go_ret2
 exact ⟨rfl, rfl⟩
theorem rNext_short (B : Nat → Prop) (p n : Nat) (l : List UInt8) (k : Nat) (hk : k ≤ l.length) (hn : l.length < k + n) (hn2 : n ≤ 65536) (w : World) (h : IsRd B p w l k 0) (hl : l.length ≤ 65536) :
  Calls Tryz.prog 127 #[.pointer (some ⟨p, 0, none⟩), .int .i64 n] w fun e w' => e = .returned (.tuple #[.slice none 0 0, .bool false]) ∧ IsRd B p w' l k 50 ∧ Chg (fun x => x = p) w w' := by
 have hb : decide ((n : Int) > (l.length : Int) - (k : Int)) = true := by rw [decide_eq_true_eq]; omega
 have wlk : IntKind.i64.wrap ((l.length : Int) - (k : Int)) = (l.length : Int) - (k : Int) := Go.IntWalk.i64_in _ (by omega)
 obtain ⟨A, c, c0, c1, c2, hlt, hfr, hc1, hc2, hr⟩ := h.cells
 have HI := Lh h
 have HR := Lh hr
 have h0 : ((0 : Int) != 0) = false := rfl
 have f1 := hfr 1
 have f2 := hfr 2
 clear h hr hfr
 go_enter Tryz.func127, Tryz.ntmps127
 go_wp2_with fail
 refine wp_region_held_drew (S := fun W => Chg Non w W) (by kernel_rfl) ((Chg.refl Non _).drew) (fun hHeld => ?_)
 clear hHeld
 refine hp 0 11 (.int .i64 n) rfl ((Chg.refl Non _).drew) ?_
 refine hp 1 12 (.pointer (some ⟨p, 0, none⟩)) rfl ((Chg.refl Non _).drew) ?_
 refine hp 2 13 (.pointer (some ⟨p, 0, none⟩)) rfl ((Chg.refl Non _).drew) ?_
 refine hp 3 14 (.pointer (some ⟨p, 0, none⟩)) rfl ((Chg.refl Non _).drew) ?_
 refine hp 4 15 (.slice A l.length c) rfl ((Chg.refl Non _).drew) ?_ (he := (fun W hW => by have hq := hW.cell_some c0 (fun e => e); go_simp))
 refine hp 5 16 (.int .i64 l.length) rfl ((Chg.refl Non _).drew) ?_
 refine hp 6 17 (.pointer (some ⟨p, 0, none⟩)) rfl ((Chg.refl Non _).drew) ?_
 refine hp 7 18 (.pointer (some ⟨p, 0, none⟩)) rfl ((Chg.refl Non _).drew) ?_
 refine hp 8 19 (.pointer (some ⟨p, 1, none⟩)) rfl ((Chg.refl Non _).drew) ?_
 refine hp 9 20 (.int .i64 k) rfl ((Chg.refl Non _).drew) ?_ (he := (fun W hW => by have hq := hW.cell_some c1 (fun e => e); go_simp))
 refine hp 10 21 (.int .i64 ((l.length : Int) - (k : Int))) rfl ((Chg.refl Non _).drew) ?_
 refine hp 11 22 (.bool true) rfl ((Chg.refl Non _).drew) ?_
 refine hdn ?_ _
 have HI := Lh ((HI.out.non ((Chg.refl Non _).drew)).setEr 50)
 have HG : Hid (Chg (fun x => x = p) w (w.drew.setCell ⟨p, 2, none⟩ (.int .i64 50))) := Lh (((Chg.refl (fun x => x = p) w).drew).setCell (p := ⟨p, 2, none⟩) (.inl rfl) _)
 have c2 : w.drew.cell? ⟨p, 2, none⟩ = some (.int .i64 0) := c2
 have f2 : w.drew.frozen? ⟨p, 2, none⟩ = false := f2
 have hlt : p < w.drew.heap.size := hlt
 generalize w.drew = w9 at *
 go_wp2_with fail
 go_ret2
 exact ⟨rfl, HI.out, HG.out⟩
theorem rNext_okL (B : Nat → Prop) (p n : Nat) (l : List UInt8) (k : Nat) (hn : k + n ≤ l.length) (hn1 : 1 ≤ n) (hn2 : n ≤ 65536) (w : World) (h : IsRd B p w l k 0) (hl : l.length ≤ 65536) :
  Calls Tryz.prog 127 #[.pointer (some ⟨p, 0, none⟩), .int .i64 n] w fun e w' => ∃ A2 c2, e = .returned (.tuple #[.slice A2 n c2, .bool true]) ∧ Own w.heap.size w' A2 ((l.drop k).take n) ∧ n ≤ c2 ∧ c2 ≤ maxLen ∧ IsRd B p w' l (k + n) 0 ∧ Chg (fun x => x = p) w w' := by
 have hb : decide ((n : Int) > (l.length : Int) - (k : Int)) = false := by rw [decide_eq_false_iff_not]; omega
 obtain ⟨kn, hkn⟩ : ∃ kn, k + n = kn := ⟨_, rfl⟩
 have hkni : (k : Int) + (n : Int) = (kn : Int) := by omega
 have hsub : (kn : Int) - (n : Int) = (k : Int) := by omega
 have hknb : kn ≤ 65536 := by omega
 have hnk : kn - k = n := by omega
 rw [hkn] at hn ⊢
 have HKn := Lh hkn
 clear hkn
 have wlk : IntKind.i64.wrap ((l.length : Int) - (k : Int)) = (l.length : Int) - (k : Int) := Go.IntWalk.i64_in _ (by omega)
 obtain ⟨A, c, c0, c1, c2, hlt, hfr, hc1, hc2, hr⟩ := h.cells
 have HI := Lh h
 have HR := Lh hr
 have h0 : ((0 : Int) != 0) = false := rfl
 have f1 := hfr 1
 have f2 := hfr 2
 clear h hr hfr
 go_enter Tryz.func127, Tryz.ntmps127
 go_wp2_with fail
 refine wp_region_held_drew (S := fun W => Chg Non w W) (by kernel_rfl) ((Chg.refl Non _).drew) (fun hHeld => ?_)
 clear hHeld
 refine hp 0 11 (.int .i64 n) rfl ((Chg.refl Non _).drew) ?_
 refine hp 1 12 (.pointer (some ⟨p, 0, none⟩)) rfl ((Chg.refl Non _).drew) ?_
 refine hp 2 13 (.pointer (some ⟨p, 0, none⟩)) rfl ((Chg.refl Non _).drew) ?_
 refine hp 3 14 (.pointer (some ⟨p, 0, none⟩)) rfl ((Chg.refl Non _).drew) ?_
 refine hp 4 15 (.slice A l.length c) rfl ((Chg.refl Non _).drew) ?_ (he := (fun W hW => by have hq := hW.cell_some c0 (fun e => e); go_simp))
 refine hp 5 16 (.int .i64 l.length) rfl ((Chg.refl Non _).drew) ?_
 refine hp 6 17 (.pointer (some ⟨p, 0, none⟩)) rfl ((Chg.refl Non _).drew) ?_
 refine hp 7 18 (.pointer (some ⟨p, 0, none⟩)) rfl ((Chg.refl Non _).drew) ?_
 refine hp 8 19 (.pointer (some ⟨p, 1, none⟩)) rfl ((Chg.refl Non _).drew) ?_
 refine hp 9 20 (.int .i64 k) rfl ((Chg.refl Non _).drew) ?_ (he := (fun W hW => by have hq := hW.cell_some c1 (fun e => e); go_simp))
 refine hp 10 21 (.int .i64 ((l.length : Int) - (k : Int))) rfl ((Chg.refl Non _).drew) ?_
 refine hp 11 22 (.bool false) rfl ((Chg.refl Non _).drew) ?_
 refine hdn ?_ _
 have HI := Lh ((HI.out.non ((Chg.refl Non _).drew)).setAt kn)
 have HG : Hid (Chg (fun x => x = p) w (w.drew.setCell ⟨p, 1, none⟩ (.int .i64 (kn : Nat)))) := Lh (((Chg.refl (fun x => x = p) w).drew).setCell (p := ⟨p, 1, none⟩) (.inl rfl) _)
 have c1 : w.drew.cell? ⟨p, 1, none⟩ = some (.int .i64 (k : Nat)) := c1
 have f1 : w.drew.frozen? ⟨p, 1, none⟩ = false := f1
 have hlt : p < w.drew.heap.size := hlt
 clear c0 c2 HR hc1 hc2
 generalize w.drew = w9 at *
 go_wp2_with fail
 generalize w9.setCell ⟨p, 1, none⟩ (.int .i64 (kn : Nat)) = w1 at HI HG ⊢
 clear c1 f1 hlt
 obtain ⟨A3, c3, c0, c1, c2, hlt, hfr, hc1, hc2, hr⟩ := HI.out.cells
 obtain ⟨b, o, rfl, _, _⟩ := hr.at_ (by omega)
 have hrd : Rd w1 (some ⟨b, o + k, none⟩) ((l.drop k).take n) := (hr.drop k).take n
 have hlen : ((l.drop k).take n).length = n := by have := HKn.out; rw [List.length_take, List.length_drop]; omega
 have HCp := Lh (fun W (hg : Chg Non w1 W) => rCopy (some ⟨b, o + k, none⟩) ((l.drop k).take n) (c3 - k) W (hrd.non hg) (by omega))
 rw [hlen] at HCp
 have hkc : (kn : Int) ≤ (c3 : Int) := by omega
 have hkk : (k : Int) ≤ (kn : Int) := by omega
 have wk : IntKind.i64.wrap (k : Int) = (k : Int) := Go.IntWalk.i64_in _ (by omega)
 have hck : ¬ c3 = k := by omega
 clear hr hrd hfr
 refine wp_region_held_drew (S := fun W => Chg Non w1 W) (by kernel_rfl) ((Chg.refl Non _).drew) (fun hHeld => ?_)
 clear hHeld
 refine hp 0 35 (.pointer (some ⟨p, 0, none⟩)) rfl ((Chg.refl Non _).drew) ?_
 refine hp 1 36 (.pointer (some ⟨p, 0, none⟩)) rfl ((Chg.refl Non _).drew) ?_
 refine hp 2 37 (.pointer (some ⟨p, 0, none⟩)) rfl ((Chg.refl Non _).drew) ?_
 refine hp 3 38 (.slice (some ⟨b, o, none⟩) l.length c3) rfl ((Chg.refl Non _).drew) ?_ (he := (fun W hW => by have hq := hW.cell_some c0 (fun e => e); go_simp))
 refine hp 4 39 (.pointer (some ⟨p, 0, none⟩)) rfl ((Chg.refl Non _).drew) ?_
 refine hp 5 40 (.pointer (some ⟨p, 0, none⟩)) rfl ((Chg.refl Non _).drew) ?_
 refine hp 6 41 (.pointer (some ⟨p, 1, none⟩)) rfl ((Chg.refl Non _).drew) ?_
 refine hp 7 42 (.int .i64 kn) rfl ((Chg.refl Non _).drew) ?_ (he := (fun W hW => by have hq := hW.cell_some c1 (fun e => e); go_simp))
 refine hp 8 43 (.int .i64 n) rfl ((Chg.refl Non _).drew) ?_
 refine hp 9 44 (.int .i64 k) rfl ((Chg.refl Non _).drew) ?_
 refine hp 10 45 (.pointer (some ⟨p, 0, none⟩)) rfl ((Chg.refl Non _).drew) ?_
 refine hp 11 46 (.pointer (some ⟨p, 0, none⟩)) rfl ((Chg.refl Non _).drew) ?_
 refine hp 12 47 (.pointer (some ⟨p, 1, none⟩)) rfl ((Chg.refl Non _).drew) ?_
 refine hp 13 48 (.int .i64 kn) rfl ((Chg.refl Non _).drew) ?_ (he := (fun W hW => by have hq := hW.cell_some c1 (fun e => e); go_simp))
 refine hp 14 49 (.slice (some ⟨b, o + k, none⟩) n (c3 - k)) rfl ((Chg.refl Non _).drew) ?_
 refine h1o 15 rfl ?_
 intro K hK
 go_simp
 refine (HCp.out _ ((Chg.refl Non _).drew)).mono ?_
 rintro e u ⟨A2, c2', rfl, g1, g2, g3, g4⟩
 have HU : Hid (Chg Non w1 u) := Lh (((Chg.refl Non _).drew).then_non g4)
 have HO : Hid (Own w.heap.size u A2 ((l.drop k).take n)) := Lh (g3.mono HG.out.size)
 have hn2c : n ≤ c2' := by rw [hlen] at g1; exact g1
 refine hK.out _ _ HU.out (fun _ => ?_)
 clear hK K g3 g4
 refine hp 16 4 (.slice A2 n c2') rfl HU.out ?_
 refine hp 17 5 (.bool true) rfl HU.out ?_
 refine hdn ?_ _
 go_wp2_with fail
 go_ret2
 exact ⟨A2, c2', rfl, HO.out, hn2c, g2, HI.out.non HU.out, HG.out.then_non HU.out⟩
theorem rNext_ok (B : Nat → Prop) (p n : Nat) (l : List UInt8) (k : Nat) (hn : k + n ≤ l.length) (hn1 : 1 ≤ n) (hn2 : n ≤ 65536) (w : World) (h : IsRd B p w l k 0) (hl : l.length ≤ 65536) :
  Calls Tryz.prog 127 #[.pointer (some ⟨p, 0, none⟩), .int .i64 n] w fun e w' => ∃ A2 c2, e = .returned (.tuple #[.slice A2 n c2, .bool true]) ∧ Own w.heap.size w' A2 ((l.drop k).take n) ∧ n ≤ c2 ∧ IsRd B p w' l (k + n) 0 ∧ Chg (fun x => x = p) w w' :=
 (rNext_okL B p n l k hn hn1 hn2 w h hl).mono fun e w' ⟨A2, c2, h1, h2, h3, _, h5, h6⟩ => ⟨A2, c2, h1, h2, h3, h5, h6⟩
theorem rNumb_ok (B : Nat → Prop) (p n : Nat) (l : List UInt8) (k : Nat) (w : World) (h : IsRd B p w l k 0) (hn : k + n ≤ l.length) (hn1 : 1 ≤ n) (hn2 : n ≤ 8) (hl : l.length ≤ 65536) :
  Calls Tryz.prog 126 #[.pointer (some ⟨p, 0, none⟩), .int .i64 n] w fun e w' => e = .returned (.int .u64 (num ((l.drop k).take n) : Nat)) ∧ IsRd B p w' l (k + n) 0 ∧ Chg (fun x => x = p) w w' := by
 have HN := Lh (rNext_ok B p n l k hn hn1 (by omega) w h hl)
 have hlen : ((l.drop k).take n).length = n := by rw [List.length_take, List.length_drop]; omega
 obtain ⟨m, hm⟩ : ∃ m, (l.drop k).take n = m := ⟨_, rfl⟩
 rw [hm] at hlen HN ⊢
 have HM := Lh hlen
 clear h hm hlen
 go_enter Tryz.func126, Tryz.ntmps126
 go_wp2_with fail
 refine HN.out.mono ?_
 rintro e w1 ⟨A2, c2, rfl, h1, _, h2, h3⟩
 have hnb := rNumber A2 m c2 w1 h1.rd (by rw [HM.out]; omega) (by rw [HM.out]; omega)
 rw [HM.out] at hnb
 have HNb := Lh hnb
 have HI := Lh h2
 have HG := Lh h3
 clear h1 h2 h3 hnb
 go_wp2_with fail
 refine HNb.out.mono ?_
 rintro e w2 ⟨rfl, rfl⟩
 go_wp2_with fail
 go_ret
 exact ⟨rfl, HI.out, HG.out⟩
theorem rNumb_short (B : Nat → Prop) (p n : Nat) (l : List UInt8) (k : Nat) (w : World) (h : IsRd B p w l k 0) (hk : k ≤ l.length) (hn : l.length < k + n) (hn2 : n ≤ 8) (hl : l.length ≤ 65536) :
  Calls Tryz.prog 126 #[.pointer (some ⟨p, 0, none⟩), .int .i64 n] w fun e w' => e = .returned (.int .u64 0) ∧ IsRd B p w' l k 50 ∧ Chg (fun x => x = p) w w' := by
 have HN := Lh (rNext_short B p n l k hk hn (by omega) w h hl)
 clear h
 go_enter Tryz.func126, Tryz.ntmps126
 go_wp2_with fail
 refine HN.out.mono ?_
 rintro e w1 ⟨rfl, h1, h2⟩
 have HI := Lh h1
 have HG := Lh h2
 clear h1 h2
 go_wp2_with fail
 go_ret
 exact ⟨rfl, HI.out, HG.out⟩
theorem rNumb_broken (B : Nat → Prop) (p n : Nat) (l : List UInt8) (k : Nat) (er : Int) (he : er ≠ 0) (w : World) (h : IsRd B p w l k er) (hl : l.length ≤ 65536) :
  Calls Tryz.prog 126 #[.pointer (some ⟨p, 0, none⟩), .int .i64 n] w fun e w' => e = .returned (.int .u64 0) ∧ w = w' := by
 have HN := Lh (rNext_broken B p n l k er he w h hl)
 clear h
 go_enter Tryz.func126, Tryz.ntmps126
 go_wp2_with fail
 refine HN.out.mono ?_
 rintro e w1 ⟨rfl, rfl⟩
 go_wp2_with fail
 go_ret
 exact ⟨rfl, rfl⟩
def RdSt (B : Nat → Prop) (p : Nat) (w : World) (l : List UInt8) (rest : List UInt8) (er : Int) : Prop := ∃ k, IsRd B p w l k er ∧ (er = 0 → l.drop k = rest ∧ k ≤ l.length)
theorem RdSt.non {B : Nat → Prop} {p : Nat} {w w' : World} {l rest : List UInt8} {er : Int} (h : RdSt B p w l rest er) (hg : Chg Non w w') : RdSt B p w' l rest er := by
 obtain ⟨k, h1, h2⟩ := h
 exact ⟨k, h1.non hg, h2⟩
theorem rRInt (B : Nat → Prop) (p : Nat) (l rest : List UInt8) (er : Int) (w : World) (h : RdSt B p w l rest er) (hl : l.length ≤ 65536) :
  Calls Tryz.prog 95 #[.pointer (some ⟨p, 0, none⟩)] w fun e w' => e = .returned (.int .i64 (rdInt rest er).1) ∧ RdSt B p w' l (rdInt rest er).2.1 (rdInt rest er).2.2 ∧ Chg (fun x => x = p) w w' := by
 obtain ⟨k, hI, hs⟩ := h
 unfold rdInt
 by_cases he : er = 0
 ·subst he
  obtain ⟨hd, hk⟩ := hs rfl
  rw [if_pos rfl]
  have hrl : rest.length = l.length - k := by rw [← hd, List.length_drop]
  by_cases h8 : 8 ≤ rest.length
  ·rw [if_pos h8]
   have HN := Lh (rNumb_ok B p 8 l k w hI (by omega) (by omega) (by omega) hl)
   rw [hd] at HN
   have hdd : l.drop (k + 8) = rest.drop 8 := by rw [← hd, List.drop_drop]
   obtain ⟨X, hX⟩ : ∃ X, num (rest.take 8) = X := ⟨_, rfl⟩
   rw [hX] at HN ⊢
   have hxb : X < 18446744073709551616 := by rw [← hX]; have := num_lt (rest.take 8); rw [List.length_take, Nat.min_eq_left h8] at this; exact this
   clear hI hs hX
   go_enter Tryz.func95, Tryz.ntmps95
   go_wp2_with fail
   refine HN.out.mono ?_
   rintro e w1 ⟨rfl, h1, h2⟩
   have HI := Lh h1
   have HG := Lh h2
   clear h1 h2
   go_wp2_with fail
   go_ret
   exact ⟨rfl, ⟨k + 8, HI.out, fun _ => ⟨hdd, by omega⟩⟩, HG.out⟩
  ·rw [if_neg h8]
   have HN := Lh (rNumb_short B p 8 l k w hI hk (by omega) (by omega) hl)
   clear hI hs
   go_enter Tryz.func95, Tryz.ntmps95
   go_wp2_with fail
   refine HN.out.mono ?_
   rintro e w1 ⟨rfl, h1, h2⟩
   have HI := Lh h1
   have HG := Lh h2
   clear h1 h2
   go_wp2_with fail
   go_ret
   exact ⟨rfl, ⟨k, HI.out, fun e => by simp at e⟩, HG.out⟩
 ·rw [if_neg he]
  have HN := Lh (rNumb_broken B p 8 l k er he w hI hl)
  have HI := Lh hI
  have HSt := Lh hs
  clear hI hs
  go_enter Tryz.func95, Tryz.ntmps95
  go_wp2_with fail
  refine HN.out.mono ?_
  rintro e w1 ⟨rfl, rfl⟩
  go_wp2_with fail
  go_ret
  exact ⟨rfl, ⟨k, HI.out, HSt.out⟩, Chg.refl _ _⟩
end
section
open Go.RowKit
theorem rRByte (B : Nat → Prop) (p : Nat) (l rest : List UInt8) (er : Int) (w : World) (h : RdSt B p w l rest er) (hl : l.length ≤ 65536) :
  Calls Tryz.prog 131 #[.pointer (some ⟨p, 0, none⟩)] w fun e w' => e = .returned (.int .u8 ((rdByte rest er).1.toNat : Nat)) ∧ RdSt B p w' l (rdByte rest er).2.1 (rdByte rest er).2.2 ∧ Chg (fun x => x = p) w w' := by
 obtain ⟨k, hI, hs⟩ := h
 by_cases he : er = 0
 ·subst he
  obtain ⟨hd, hk⟩ := hs rfl
  have hrl : rest.length = l.length - k := by rw [← hd, List.length_drop]
  cases rest with
  | cons x r =>
   rw [show rdByte (x :: r) 0 = (x, r, 0) from rfl]
   simp only [List.length_cons] at hrl
   have HN := Lh (rNumb_ok B p 1 l k w hI (by omega) (by omega) (by omega) hl)
   rw [hd, show (x :: r).take 1 = [x] from rfl, show num [x] = x.toNat by simp [num]] at HN
   have hdd : l.drop (k + 1) = r := by rw [← List.drop_drop, hd]; rfl
   have hx8 := x.toNat_lt
   clear hI hs
   have hw8 : IntKind.u8.wrap (x.toNat : Int) = (x.toNat : Int) := by rw [IntKind.wrap_u8']; omega
   go_enter Tryz.func131, Tryz.ntmps131
   go_wp2_with fail
   refine HN.out.mono ?_
   rintro e w1 ⟨rfl, h1, h2⟩
   have HI := Lh h1
   have HG := Lh h2
   clear h1 h2
   go_wp2_with fail
   go_ret
   exact ⟨rfl, ⟨k + 1, HI.out, fun _ => ⟨hdd, by omega⟩⟩, HG.out⟩
  | nil =>
   rw [show rdByte [] 0 = (0, [], 50) from rfl]
   have hz : (((0 : UInt8).toNat : Nat) : Int) = 0 := by simp
   simp only [hz]
   simp only [List.length_nil] at hrl
   have HN := Lh (rNumb_short B p 1 l k w hI hk (by omega) (by omega) hl)
   clear hI hs hrl hd hz
   go_enter Tryz.func131, Tryz.ntmps131
   go_wp2_with fail
   refine HN.out.mono ?_
   rintro e w1 ⟨rfl, h1, h2⟩
   have HI := Lh h1
   have HG := Lh h2
   clear h1 h2
   go_wp2_with fail
   go_ret
   exact ⟨rfl, ⟨k, HI.out, fun e => by simp at e⟩, HG.out⟩
 ·rw [show rdByte rest er = (0, rest, er) by unfold rdByte; rw [if_neg he]]
  have hz : (((0 : UInt8).toNat : Nat) : Int) = 0 := by simp
  simp only [hz]
  have HN := Lh (rNumb_broken B p 1 l k er he w hI hl)
  have HI := Lh hI
  have HSt := Lh hs
  clear hI hs
  go_enter Tryz.func131, Tryz.ntmps131
  go_wp2_with fail
  refine HN.out.mono ?_
  rintro e w1 ⟨rfl, rfl⟩
  go_wp2_with fail
  go_ret
  exact ⟨rfl, ⟨k, HI.out, HSt.out⟩, Chg.refl _ _⟩
theorem rRFlag (B : Nat → Prop) (p : Nat) (l rest : List UInt8) (er : Int) (w : World) (h : RdSt B p w l rest er) (hl : l.length ≤ 65536) :
  Calls Tryz.prog 130 #[.pointer (some ⟨p, 0, none⟩)] w fun e w' => e = .returned (.bool (rdFlag rest er).1) ∧ RdSt B p w' l (rdFlag rest er).2.1 (rdFlag rest er).2.2 ∧ Chg (fun x => x = p) w w' := by
 obtain ⟨k, hI, hs⟩ := h
 by_cases he : er = 0
 ·subst he
  obtain ⟨hd, hk⟩ := hs rfl
  have hrl : rest.length = l.length - k := by rw [← hd, List.length_drop]
  cases rest with
  | cons x r =>
   simp only [List.length_cons] at hrl
   have HN := Lh (rNumb_ok B p 1 l k w hI (by omega) (by omega) (by omega) hl)
   rw [hd, show (x :: r).take 1 = [x] from rfl, show num [x] = x.toNat by simp [num]] at HN
   have hdd : l.drop (k + 1) = r := by rw [← List.drop_drop, hd]; rfl
   have hx8 := x.toNat_lt
   clear hI hs
   by_cases h1 : x ≤ 1
   ·rw [show rdFlag (x :: r) 0 = (decide (x = 1), r, 0) by unfold rdFlag; simp only [if_true, h1]]
    have hx1 : x.toNat ≤ 1 := h1
    have b1 : decide ((x.toNat : Int) > 1) = false := by rw [decide_eq_false_iff_not]; omega
    have b2 : ((x.toNat : Int) == 1) = decide (x = 1) := by
     rw [Bool.eq_iff_iff]
     simp only [beq_iff_eq, decide_eq_true_eq]
     exact ⟨fun e => UInt8.toNat_inj.1 (by simp; omega), fun e => by rw [e]; rfl⟩
    have B2 := Lh b2
    clear h1 b2
    go_enter Tryz.func130, Tryz.ntmps130
    go_wp2_with fail
    refine HN.out.mono ?_
    rintro e w1 ⟨rfl, h1, h2⟩
    have HI := Lh h1
    have HG := Lh h2
    clear h1 h2
    go_wp2_with fail
    go_ret
    exact ⟨by rw [← B2.out]; rfl, ⟨k + 1, HI.out, fun _ => ⟨hdd, by omega⟩⟩, HG.out⟩
   ·rw [show rdFlag (x :: r) 0 = (false, [], 50) by unfold rdFlag; simp only [if_true, h1, if_false]]
    have hx1 : 1 < x.toNat := Nat.lt_of_not_le h1
    have b1 : decide ((x.toNat : Int) > 1) = true := by rw [decide_eq_true_eq]; omega
    have b2 : ((x.toNat : Int) == 1) = false := by rw [beq_eq_false_iff_ne]; omega
    clear h1
    go_enter Tryz.func130, Tryz.ntmps130
    go_wp2_with fail
    refine HN.out.mono ?_
    rintro e w1 ⟨rfl, h1, h2⟩
    have HI := Lh h1
    have HG := Lh h2
    clear h1 h2
    obtain ⟨A, c, c0, c1, c2, hlt, hfr, hc1, hc2, hr⟩ := HI.out.cells
    have f2 := hfr 2
    have HI2 := Lh (HI.out.setEr 50)
    have HG2 : Hid (Chg (fun x => x = p) w (w1.setCell ⟨p, 2, none⟩ (.int .i64 50))) := Lh (HG.out.setCell (p := ⟨p, 2, none⟩) (.inl rfl) _)
    clear hfr hr
    go_wp2_with fail
    go_ret
    exact ⟨rfl, ⟨k + 1, HI2.out, fun e => by simp at e⟩, HG2.out⟩
  | nil =>
   rw [show rdFlag [] 0 = (false, [], 50) from rfl]
   simp only [List.length_nil] at hrl
   have HN := Lh (rNumb_short B p 1 l k w hI hk (by omega) (by omega) hl)
   clear hI hs hrl hd
   go_enter Tryz.func130, Tryz.ntmps130
   go_wp2_with fail
   refine HN.out.mono ?_
   rintro e w1 ⟨rfl, h1, h2⟩
   have HI := Lh h1
   have HG := Lh h2
   clear h1 h2
   go_wp2_with fail
   go_ret
   exact ⟨rfl, ⟨k, HI.out, fun e => by simp at e⟩, HG.out⟩
 ·rw [show rdFlag rest er = (false, rest, er) by unfold rdFlag; rw [if_neg he]]
  have HN := Lh (rNumb_broken B p 1 l k er he w hI hl)
  have HI := Lh hI
  have HSt := Lh hs
  clear hI hs
  go_enter Tryz.func130, Tryz.ntmps130
  go_wp2_with fail
  refine HN.out.mono ?_
  rintro e w1 ⟨rfl, rfl⟩
  go_wp2_with fail
  go_ret
  exact ⟨rfl, ⟨k, HI.out, HSt.out⟩, Chg.refl _ _⟩
end
section
open Go.RowKit
theorem IsRd.keep {S : Nat → Prop} {B : Nat → Prop} {p : Nat} {w w' : World} {l : List UInt8} {k : Nat} {er : Int} (h : IsRd B p w l k er) (hg : Chg S w w') (hS : ∀ x, S x → ¬ B x) : IsRd B p w' l k er := by
 obtain ⟨A, c, hb, hp, h1, h2, ho⟩ := h
 exact ⟨A, c, (hg.block p (Array.getElem?_eq_some_iff.1 hb).1 (fun e => hS p e hp.1)).trans hb, hp, h1, h2, ho.keep hg (fun b o e _ hl hs => hS b hs (hp.2 b o e hl))⟩
theorem RdSt.keep {S : Nat → Prop} {B : Nat → Prop} {p : Nat} {w w' : World} {l rest : List UInt8} {er : Int} (h : RdSt B p w l rest er) (hg : Chg S w w') (hS : ∀ x, S x → ¬ B x) : RdSt B p w' l rest er := by
 obtain ⟨k, h1, h2⟩ := h
 exact ⟨k, h1.keep hg hS, h2⟩
theorem RdSt.lt {B : Nat → Prop} {p : Nat} {w : World} {l rest : List UInt8} {er : Int} (h : RdSt B p w l rest er) : p < w.heap.size := by
 obtain ⟨k, ⟨A, c, hb, _⟩, _⟩ := h
 exact (Array.getElem?_eq_some_iff.1 hb).1
theorem RdSt.ptr {B : Nat → Prop} {p : Nat} {w : World} {l rest : List UInt8} {er : Int} (h : RdSt B p w l rest er) : B p := by
 obtain ⟨k, ⟨A, c, hb, hp, _⟩, _⟩ := h
 exact hp.1
def tagP (m : List UInt8) (k : Nat) : List UInt8 := m.take k ++ List.replicate (32 - k) 0
theorem tagP_len {m : List UInt8} (hm : m.length = 32) {k : Nat} (hk : k ≤ 32) : (tagP m k).length = 32 := by
 unfold tagP
 rw [List.length_append, List.length_take, List.length_replicate]
 omega
theorem tagP_all {m : List UInt8} (hm : m.length = 32) : tagP m 32 = m := by
 unfold tagP
 rw [show 32 - 32 = 0 from rfl, List.replicate_zero, List.append_nil, ← hm, List.take_length]
theorem tagP_set {m : List UInt8} (hm : m.length = 32) {k : Nat} (hk : k < 32) (x : UInt8) (hx : m[k]? = some x) : (tagA (tagP m k)).setIfInBounds k (.int .u8 (x.toNat : Int)) = tagA (tagP m (k + 1)) := by
 have e : (tagP m k).set k x = tagP m (k + 1) := by
  apply List.ext_getElem?
  intro i
  unfold tagP
  rw [List.getElem?_set, List.length_append, List.length_take, List.length_replicate, List.getElem?_append, List.getElem?_append, List.length_take, List.length_take]
  by_cases h1 : k = i
  ·subst h1
   rw [if_pos rfl, if_pos (by omega), if_pos (by omega), List.getElem?_take_of_lt (by omega), hx]
  ·rw [if_neg h1]
   by_cases h2 : i < k
   ·rw [if_pos (by omega), if_pos (by omega), List.getElem?_take_of_lt h2, List.getElem?_take_of_lt (by omega)]
   ·rw [if_neg (by omega), if_neg (by omega), List.getElem?_replicate, List.getElem?_replicate]
    by_cases h3 : i < 32
    ·rw [if_pos (by omega), if_pos (by omega)]
    ·rw [if_neg (by omega), if_neg (by omega)]
 unfold tagA
 rw [List.setIfInBounds_toArray, show (Value.int .u8 (x.toNat : Int)) = bv x from rfl, ← List.map_set, e]
theorem rTag_tail (B : Nat → Prop) (p : Nat) (l rest : List UInt8) (er : Int) (w : World) (hN : ∀ W, Chg Non w W → Calls Tryz.prog 127 #[.pointer (some ⟨p, 0, none⟩), .int .i64 32] W fun e w' => ∃ A2 c2 m b, e = .returned (.tuple #[.slice A2 m.length c2, .bool b]) ∧ (m = [] ∨ m.length = 32) ∧ tagP m m.length = (rdTag rest er).1 ∧ m.length ≤ c2 ∧ Own W.heap.size w' A2 m ∧ RdSt B p w' l (rdTag rest er).2.1 (rdTag rest er).2.2 ∧ Chg (fun x => x = p) W w')
  (hp : p < w.heap.size) (hB : ∀ x, B x → x < w.heap.size) :
  Calls Tryz.prog 96 #[.pointer (some ⟨p, 0, none⟩)] w fun e w' => e = .returned (.agg (tagA (rdTag rest er).1)) ∧ RdSt B p w' l (rdTag rest er).2.1 (rdTag rest er).2.2 ∧ Chg (fun x => x = p) w w' := by
 have HN := Lh hN
 have HL := Lh (rdTag_len rest er)
 obtain ⟨⟨x, l', er'⟩, hq⟩ : ∃ q, rdTag rest er = q := ⟨_, rfl⟩
 rw [hq] at HN HL ⊢
 simp only at HN HL ⊢
 clear hN hq
 go_enter Tryz.func96, Tryz.ntmps96
 go_wp2_with fail
 refine (HN.out _ (((Chg.refl Non w).alloc _).alloc _)).mono ?_
 rintro e u ⟨A2, c2, m, b, rfl, hm, hx, hmc, hO, hR, hg⟩
 have hb0 : u.heap[w.heap.size]? = some (.cells (tagA zTag) 28 (0, 0)) := by
  rw [hg.block _ (by simp; omega) (by omega), heap_alloc2_old]
  rfl
 have hb1 : u.heap[w.heap.size + 1]? = some (.cells (tagA zTag) 28 (0, 0)) := by
  rw [hg.block _ (by simp) (by omega), heap_alloc2_new]
  rfl
 have hgA : Chg (fun x => x = p) w u := (((Chg.refl Non w).alloc _).alloc _).non_then hg
 have hB0 : ∀ x, B x → x ≠ w.heap.size + 1 ∧ x ≠ w.heap.size := fun x h => by have := hB x h; omega
 have hge : ∀ b o, A2 = some ⟨b, o, none⟩ → m ≠ [] → w.heap.size + 2 ≤ b := fun b o e h => by
  subst e
  have := hO.ge h
  simp at this
  omega
 have HO := Lh hO
 have HR := Lh hR
 have HGA := Lh hgA
 have HB0 := Lh hb0
 have HB1 := Lh hb1
 have HM := Lh hm
 have HX := Lh hx
 have HGE := Lh hge
 have hml : m.length ≤ 32 := by rcases hm with rfl | h <;> simp_all
 clear hO hR hgA hb0 hb1 hm hx hge HN hg
 go_wp2_with fail
 go_loopw [6] (fun iv wr => ∃ k : Nat, k ≤ m.length ∧ iv = .int .i64 k ∧ wr.heap[w.heap.size + 1]? = some (.cells (tagA (tagP m k)) 28 (0, 0)) ∧ Chg (fun x => x = w.heap.size + 1) u wr) (fun iv _ => m.length - (intOf iv).toNat)
 case atStart => exact ⟨0, by omega, rfl, HB1.out, Chg.refl _ _⟩
 case round =>
  obtain ⟨k, hk, rfl, hT, hC⟩ := hrel
  have HT := Lh hT
  have HC := Lh hC
  clear hT hC
  by_cases hlt : k < m.length
  ·have hm32 : m.length = 32 := by
    rcases HM.out with h | h <;> first | exact h | (subst h; simp at hlt)
   have hrd : Rd wr A2 m := HO.out.rd.keep HC.out (fun b o e h hs => by have := HGE.out b o e h; omega)
   obtain ⟨bA, oA, rfl, _, hcell⟩ := hrd.at_ (by omega)
   have hk1 := hcell k hlt
   have hlt' : decide ((k : Int) < (m.length : Int)) = true := by simpa using hlt
   have ht : wr.cell? ⟨w.heap.size + 1, k, none⟩ = some (bv ((tagP m k)[k]'(by rw [tagP_len hm32 (by omega)]; omega))) := by
    rw [cell_of_row _ _ _ _ _ _ HT.out]
    unfold tagA
    rw [List.getElem?_toArray, List.getElem?_map, List.getElem?_eq_getElem (by rw [tagP_len hm32 (by omega)]; omega)]
    rfl
   have hf : wr.frozen? ⟨w.heap.size + 1, k, none⟩ = false := frozen_of_row _ _ _ _ _ HT.out
   have HSet := Lh (tagP_set hm32 (by omega) m[k] (List.getElem?_eq_getElem hlt))
   clear hcell hrd
   go_wp2_with fail
   case roundEnd =>
    refine ⟨⟨k + 1, by omega, by simp, ?_, ?_⟩, by simp [intOf]; omega⟩
    ·rw [← HSet.out]
     exact r5_setI _ HT.out
    ·exact HC.out.setCell (p := ⟨w.heap.size + 1, k, none⟩) (.inl rfl) _
  ·obtain rfl : k = m.length := by omega
   have hlt' : decide ((m.length : Int) < (m.length : Int)) = false := by simp
   have HTg : Hid (wr.heap[w.heap.size + 1]? = some (.cells (tagA x) 28 (0, 0))) := Lh (by rw [← HX.out]; exact HT.out)
   have HB9 := Lh ((HC.out.block w.heap.size (Array.getElem?_eq_some_iff.1 HB0.out).1 (by omega)).trans HB0.out)
   have hsz := tagA_size x HL.out
   have HSZ := Lh hsz
   clear hsz HT
   go_wp2_with (first
     | (refine sel (some 24) (.load 28 (.tmp 3)) ?_
        refine wpList_load_tag rfl (.tmp 3) rfl (w.heap.size + 1) 0 rfl x (range_of_tag HTg.out) HL.out ?_)
     | (refine sel none (.store 28 (.tmp 2) (.tmp 24)) ?_
        refine wpList_store_rowA rfl 28 (.tmp 2) (.tmp 24) rfl w.heap.size (tagA x) rfl rfl 28 _ HB9.out (by rw [HSZ.out]; exact info_tag) (by rw [HSZ.out, tagA_size _ zTag_len]) (tagA_one _) ?_
        intro W2 hgW2 hbW2
        have HB2 := Lh hbW2
        have HGW2 := Lh hgW2
        clear hbW2 hgW2))
   have hgU : Chg (fun x => x = w.heap.size + 1 ∨ x = w.heap.size) u W2 := (HC.out.mono (fun x e => .inl e)).trans (HGW2.out) (fun x e => e) (fun x _ e => .inr e)
   have hR4 := HR.out.keep hgU (fun x e hx => by have := hB x hx; omega)
   have hgB : Chg (fun x => x = p) w W2 := HGA.out.then_new hgU (fun x e => by omega)
   exact bodyPost_ret (results_cell_row Tryz.results96 _ _ w.heap.size 28 _ (0, 0) _ rfl HB2.out Tryz.underlying28 rfl (by rw [HSZ.out]; exact info_tag)) rfl ⟨rfl, hR4, hgB⟩
theorem rRTag (B : Nat → Prop) (p : Nat) (l rest : List UInt8) (er : Int) (w : World) (h : RdSt B p w l rest er) (hl : l.length ≤ 65536) (hB : ∀ x, B x → x < w.heap.size) :
  Calls Tryz.prog 96 #[.pointer (some ⟨p, 0, none⟩)] w fun e w' => e = .returned (.agg (tagA (rdTag rest er).1)) ∧ RdSt B p w' l (rdTag rest er).2.1 (rdTag rest er).2.2 ∧ Chg (fun x => x = p) w w' := by
 refine rTag_tail B p l rest er w (fun W hg => ?_) h.lt hB
 obtain ⟨k, hI, hs⟩ := h.non hg
 by_cases he : er = 0
 ·subst he
  obtain ⟨hd, hk⟩ := hs rfl
  have hrl : rest.length = l.length - k := by rw [← hd, List.length_drop]
  by_cases h32 : 32 ≤ rest.length
  ·have e1 : rdTag rest 0 = (rest.take 32, rest.drop 32, 0) := by unfold rdTag; rw [if_pos rfl, if_pos h32]
   rw [e1]
   have hlen : (rest.take 32).length = 32 := by rw [List.length_take]; omega
   refine (rNext_ok B p 32 l k (by omega) (by omega) (by omega) W hI hl).mono ?_
   rintro e w' ⟨A2, c2, rfl, hO, hc2, hI2, hg2⟩
   rw [hd] at hO
   refine ⟨A2, c2, rest.take 32, true, by rw [hlen], .inr hlen, by rw [hlen]; exact tagP_all hlen, by rw [hlen]; exact hc2, hO, ⟨k + 32, hI2, fun _ => ⟨by rw [← List.drop_drop, hd], by omega⟩⟩, hg2⟩
  ·have e1 : rdTag rest 0 = (zTag, [], 50) := by unfold rdTag; rw [if_pos rfl, if_neg h32]
   rw [e1]
   refine (rNext_short B p 32 l k hk (by omega) (by omega) W hI hl).mono ?_
   rintro e w' ⟨rfl, hI2, hg2⟩
   exact ⟨none, 0, [], false, rfl, .inl rfl, rfl, Nat.le_refl _, Own.nil _ _ _, ⟨k, hI2, fun e => by simp at e⟩, hg2⟩
 ·have e1 : rdTag rest er = (zTag, rest, er) := by unfold rdTag; rw [if_neg he]
  rw [e1]
  refine (rNext_broken B p 32 l k er he W hI hl).mono ?_
  rintro e w' ⟨rfl, rfl⟩
  exact ⟨none, 0, [], false, rfl, .inl rfl, rfl, Nat.le_refl _, Own.nil _ _ _, ⟨k, hI, hs⟩, Chg.refl _ _⟩
def rEndV (rest : List UInt8) (er : Int) : Int := if er = 0 then (if rest = [] then 0 else 50) else er
theorem rEndV_zero (rest : List UInt8) (er : Int) : rEndV rest er = 0 ↔ er = 0 ∧ rest = [] := by
 unfold rEndV
 by_cases h : er = 0
 ·by_cases h2 : rest = []
  ·simp [h, h2]
  ·simp [h, h2]
 ·simp [h]
theorem rREnd (B : Nat → Prop) (p : Nat) (l rest : List UInt8) (er : Int) (w : World) (h : RdSt B p w l rest er) (hl : l.length ≤ 65536) :
  Calls Tryz.prog 97 #[.pointer (some ⟨p, 0, none⟩)] w fun e w' => e = .returned (.int .i64 (rEndV rest er)) ∧ Chg Non w w' := by
 obtain ⟨k, hI, hs⟩ := h
 obtain ⟨A, c, c0, c1, c2, hlt, hfr, hc1, hc2, hr⟩ := hI.cells
 clear hr hfr hc1 hc2 hI
 unfold rEndV
 by_cases he : er = 0
 ·subst he
  obtain ⟨hd, hk⟩ := hs rfl
  have hrl : rest.length = l.length - k := by rw [← hd, List.length_drop]
  rw [if_pos rfl]
  by_cases hz : rest = []
  ·rw [if_pos hz]
   subst hz
   have hb : decide ((k : Int) < (l.length : Int)) = false := by rw [decide_eq_false_iff_not]; simp at hrl; omega
   have hbn : l.length ≤ k := by simp at hrl; omega
   clear hs hd hrl
   go_enter Tryz.func97, Tryz.ntmps97
   go_wp2_with fail
   refine wp_region_held_drew (S := fun W => Chg Non w W) (by kernel_rfl) ((Chg.refl Non _).drew) (fun hHeld => ?_)
   clear hHeld
   refine hp 0 3 (.pointer (some ⟨p, 0, none⟩)) rfl ((Chg.refl Non _).drew) ?_
   refine hp 1 4 (.pointer (some ⟨p, 0, none⟩)) rfl ((Chg.refl Non _).drew) ?_
   refine hp 2 5 (.pointer (some ⟨p, 2, none⟩)) rfl ((Chg.refl Non _).drew) ?_
   refine hp 3 6 (.int .i64 0) rfl ((Chg.refl Non _).drew) ?_ (he := (fun W hW => by have hq := hW.cell_some c2 (fun e => e); go_simp))
   refine hp 4 7 (.bool true) rfl ((Chg.refl Non _).drew) ?_
   refine hp 5 8 (.bool true) rfl ((Chg.refl Non _).drew) ?_
   refine hp 6 9 (.pointer (some ⟨p, 0, none⟩)) rfl ((Chg.refl Non _).drew) ?_
   refine hp 7 10 (.pointer (some ⟨p, 0, none⟩)) rfl ((Chg.refl Non _).drew) ?_
   refine hp 8 11 (.pointer (some ⟨p, 1, none⟩)) rfl ((Chg.refl Non _).drew) ?_
   refine hp 9 12 (.int .i64 k) rfl ((Chg.refl Non _).drew) ?_ (he := (fun W hW => by have hq := hW.cell_some c1 (fun e => e); go_simp))
   refine hp 10 13 (.pointer (some ⟨p, 0, none⟩)) rfl ((Chg.refl Non _).drew) ?_
   refine hp 11 14 (.pointer (some ⟨p, 0, none⟩)) rfl ((Chg.refl Non _).drew) ?_
   refine hp 12 15 (.pointer (some ⟨p, 0, none⟩)) rfl ((Chg.refl Non _).drew) ?_
   refine hp 13 16 (.slice A l.length c) rfl ((Chg.refl Non _).drew) ?_ (he := (fun W hW => by have hq := hW.cell_some c0 (fun e => e); go_simp))
   refine hp 14 17 (.int .i64 l.length) rfl ((Chg.refl Non _).drew) ?_
   refine hp 15 18 (.bool false) rfl ((Chg.refl Non _).drew) ?_
   refine hp 16 19 (.bool false) rfl ((Chg.refl Non _).drew) ?_
   refine hdn ?_ _
   have c2 : w.drew.cell? ⟨p, 2, none⟩ = some (.int .i64 0) := c2
   have hg9 : Chg Non w w.drew := (Chg.refl _ _).drew
   generalize w.drew = w9 at *
   go_wp2_with fail
   go_ret
   exact ⟨rfl, hg9⟩
  ·rw [if_neg hz]
   have hpos := List.length_pos_iff.2 hz
   have hb : decide ((k : Int) < (l.length : Int)) = true := by rw [decide_eq_true_eq]; omega
   have hbn : k < l.length := by omega
   clear hs hd hrl hpos hz
   go_enter Tryz.func97, Tryz.ntmps97
   go_wp2_with fail
   refine wp_region_held_drew (S := fun W => Chg Non w W) (by kernel_rfl) ((Chg.refl Non _).drew) (fun hHeld => ?_)
   clear hHeld
   refine hp 0 3 (.pointer (some ⟨p, 0, none⟩)) rfl ((Chg.refl Non _).drew) ?_
   refine hp 1 4 (.pointer (some ⟨p, 0, none⟩)) rfl ((Chg.refl Non _).drew) ?_
   refine hp 2 5 (.pointer (some ⟨p, 2, none⟩)) rfl ((Chg.refl Non _).drew) ?_
   refine hp 3 6 (.int .i64 0) rfl ((Chg.refl Non _).drew) ?_ (he := (fun W hW => by have hq := hW.cell_some c2 (fun e => e); go_simp))
   refine hp 4 7 (.bool true) rfl ((Chg.refl Non _).drew) ?_
   refine hp 5 8 (.bool true) rfl ((Chg.refl Non _).drew) ?_
   refine hp 6 9 (.pointer (some ⟨p, 0, none⟩)) rfl ((Chg.refl Non _).drew) ?_
   refine hp 7 10 (.pointer (some ⟨p, 0, none⟩)) rfl ((Chg.refl Non _).drew) ?_
   refine hp 8 11 (.pointer (some ⟨p, 1, none⟩)) rfl ((Chg.refl Non _).drew) ?_
   refine hp 9 12 (.int .i64 k) rfl ((Chg.refl Non _).drew) ?_ (he := (fun W hW => by have hq := hW.cell_some c1 (fun e => e); go_simp))
   refine hp 10 13 (.pointer (some ⟨p, 0, none⟩)) rfl ((Chg.refl Non _).drew) ?_
   refine hp 11 14 (.pointer (some ⟨p, 0, none⟩)) rfl ((Chg.refl Non _).drew) ?_
   refine hp 12 15 (.pointer (some ⟨p, 0, none⟩)) rfl ((Chg.refl Non _).drew) ?_
   refine hp 13 16 (.slice A l.length c) rfl ((Chg.refl Non _).drew) ?_ (he := (fun W hW => by have hq := hW.cell_some c0 (fun e => e); go_simp))
   refine hp 14 17 (.int .i64 l.length) rfl ((Chg.refl Non _).drew) ?_
   refine hp 15 18 (.bool true) rfl ((Chg.refl Non _).drew) ?_
   refine hp 16 19 (.bool true) rfl ((Chg.refl Non _).drew) ?_
   refine hdn ?_ _
   have hg9 : Chg Non w w.drew := (Chg.refl _ _).drew
   generalize w.drew = w9 at *
   go_wp2_with fail
   go_ret
   exact ⟨rfl, hg9⟩
 ·rw [if_neg he]
  skip
  ·have hb : (er == 0) = false := by rw [beq_eq_false_iff_ne]; exact he
   have HE := Lh he
   clear hs he
   go_enter Tryz.func97, Tryz.ntmps97
   go_wp2_with fail
   refine wp_region_held_drew (S := fun W => Chg Non w W) (by kernel_rfl) ((Chg.refl Non _).drew) (fun hHeld => ?_)
   clear hHeld
   refine hp 0 3 (.pointer (some ⟨p, 0, none⟩)) rfl ((Chg.refl Non _).drew) ?_
   refine hp 1 4 (.pointer (some ⟨p, 0, none⟩)) rfl ((Chg.refl Non _).drew) ?_
   refine hp 2 5 (.pointer (some ⟨p, 2, none⟩)) rfl ((Chg.refl Non _).drew) ?_
   refine hp 3 6 (.int .i64 er) rfl ((Chg.refl Non _).drew) ?_ (he := (fun W hW => by have hq := hW.cell_some c2 (fun e => e); go_simp))
   refine hp 4 7 (.bool false) rfl ((Chg.refl Non _).drew) ?_
   refine hp 5 8 (.bool false) rfl ((Chg.refl Non _).drew) ?_
   refine hs 6 9 rfl ((Chg.refl Non _).drew) ?_
   refine hs 7 10 rfl ((Chg.refl Non _).drew) ?_
   refine hs 8 11 rfl ((Chg.refl Non _).drew) ?_
   refine hs 9 12 rfl ((Chg.refl Non _).drew) ?_
   refine hs 10 13 rfl ((Chg.refl Non _).drew) ?_
   refine hs 11 14 rfl ((Chg.refl Non _).drew) ?_
   refine hs 12 15 rfl ((Chg.refl Non _).drew) ?_
   refine hs 13 16 rfl ((Chg.refl Non _).drew) ?_
   refine hs 14 17 rfl ((Chg.refl Non _).drew) ?_
   refine hs 15 18 rfl ((Chg.refl Non _).drew) ?_
   refine hp 16 19 (.bool false) rfl ((Chg.refl Non _).drew) ?_
   refine hdn ?_ _
   have c2 : w.drew.cell? ⟨p, 2, none⟩ = some (.int .i64 er) := c2
   have hg9 : Chg Non w w.drew := (Chg.refl _ _).drew
   generalize w.drew = w9 at *
   go_wp2_with fail
   go_ret
   exact ⟨rfl, hg9⟩
end
section
open Go.RowKit
theorem tst_xor (a b : Nat) : tst (a ^^^ b) = tst a ^^^ tst b := by
 unfold tst
 have h1 : (a ^^^ b) / 2 = a / 2 ^^^ b / 2 := by
  have := Nat.shiftRight_xor_distrib (a := a) (b := b) (i := 1)
  simpa [Nat.shiftRight_eq_div_pow] using this
 have h2 : (a ^^^ b) % 2 = (a % 2) ^^^ (b % 2) := by
  have := Nat.xor_mod_two_pow (a := a) (b := b) (n := 1)
  simpa using this
 rw [h1, h2]
 have ha : a % 2 = 0 ∨ a % 2 = 1 := by omega
 have hb : b % 2 = 0 ∨ b % 2 = 1 := by omega
 have hx : ∀ x y p : Nat, (x ^^^ y) ^^^ p = (x ^^^ p) ^^^ y := fun x y p => by rw [Nat.xor_assoc, Nat.xor_comm y p, ← Nat.xor_assoc]
 rcases ha with ha | ha <;> rcases hb with hb | hb <;> rw [ha, hb]
 ·simp
 ·simp [Nat.xor_assoc]
 ·simp [hx]
 ·simp only [Nat.xor_self, Nat.mul_zero, Nat.xor_zero, Nat.mul_one]
  rw [← Nat.xor_assoc, hx (a / 2) 3988292384 (b / 2), Nat.xor_assoc, Nat.xor_assoc, Nat.xor_self, Nat.xor_zero]
theorem tst_two (d : Nat) : tst (2 * d) = d := by
 unfold tst
 simp
theorem half_tw (c : Nat) : half c = tw 4 c := by
 have hc : c = (16 * (c / 16)) ^^^ (c % 16) := by
  have h := Nat.two_pow_add_eq_or_of_lt (i := 4) (b := c % 16) (by omega) (c / 16)
  have h2 : (2 ^ 4 * (c / 16)) ^^^ (c % 16) = 2 ^ 4 * (c / 16) + c % 16 := by
   rw [h]
   apply Nat.eq_of_testBit_eq
   intro i
   rw [Nat.testBit_xor, Nat.testBit_or]
   by_cases hi : i < 4
   ·have : (2 ^ 4 * (c / 16)).testBit i = false := by rw [Nat.testBit_two_pow_mul]; simp; omega
    rw [this]; simp
   ·have : (c % 16).testBit i = false := Nat.testBit_lt_two_pow (Nat.lt_of_lt_of_le (Nat.mod_lt _ (by omega)) (by have := Nat.pow_le_pow_right (n := 2) (by omega) (show 4 ≤ i by omega); omega))
    rw [this]; simp
  have h3 : 2 ^ 4 * (c / 16) = 16 * (c / 16) := rfl
  rw [h3] at h2
  rw [h2]
  omega
 have e : tw 4 c = tst (tst (tst (tst c))) := rfl
 have e2 : tw 4 (c % 16) = tst (tst (tst (tst (c % 16)))) := rfl
 rw [e]
 unfold half
 rw [e2]
 conv => rhs; rw [hc]
 rw [tst_xor, tst_xor, tst_xor, tst_xor]
 congr 1
 rw [show 16 * (c / 16) = 2 * (2 * (2 * (2 * (c / 16)))) by omega, tst_two, tst_two, tst_two, tst_two]
theorem tw_add (c : Nat) : tw 8 c = half (half c) := by
 rw [half_tw, half_tw]
 rfl
theorem crcB_tw (c : Nat) (x : UInt8) : crcB c x = tw 8 (c ^^^ x.toNat) := by
 rw [tw_add]; rfl
theorem rAdd (A : Option Addr) (l : List UInt8) (c : Nat) (w : World) (h : Rd w A l) (hl : l.length ≤ 1000000) :
  Calls Tryz.prog 128 #[.int .u32 0, .slice A l.length c] w fun e w' => e = .returned (.int .u32 (crcSum l : Int)) ∧ w = w' := by
 have HR := Lh h
 clear h
 have hx0 : bits .xor .u32 0 4294967295 = 4294967295 := by decide
 obtain ⟨q, hq⟩ : ∃ q : Int, (crcSum l : Int) = q := ⟨_, rfl⟩
 rw [hq]
 have HQ := Lh hq
 clear hq
 go_enter Tryz.func128, Tryz.ntmps128
 go_wp2_with fail
 go_loopw [0, 5] (fun cv i wr => ∃ k : Nat, k ≤ l.length ∧ i = .int .i64 k ∧ cv = .int .u32 (crcL 4294967295 (l.take k) : Int) ∧ w = wr) (fun _ i _ => l.length - (intOf i).toNat)
 case atStart => exact ⟨0, by omega, rfl, rfl, rfl⟩
 case round =>
  obtain ⟨k, hk, rfl, rfl, rfl⟩ := hrel
  by_cases hlt : k < l.length
  ·obtain ⟨b, o, rfl, _, hcell⟩ := HR.out.at_ (by omega)
   have hk1 := hcell k hlt
   have hlt' : decide ((k : Int) < (l.length : Int)) = true := by simpa using hlt
   clear hcell
   have HS := Lh (crcL_take_snoc 4294967295 l k hlt)
   have hc0 := crcL_lt 4294967295 (l.take k) (by omega)
   obtain ⟨C, hC⟩ : ∃ C, crcL 4294967295 (l.take k) = C := ⟨_, rfl⟩
   rw [hC] at HS hc0 ⊢
   have hxl := l[k].toNat_lt
   have hx : bits .xor .u32 (C : Int) (l[k].toNat : Int) = ((C ^^^ l[k].toNat : Nat) : Int) := u32_xor_nat _ _ hc0 (by omega)
   have hcx := crcX_lt C l[k] hc0
   have HD := Lh (crcB_tw C l[k])
   obtain ⟨D, hD⟩ : ∃ D, C ^^^ l[k].toNat = D := ⟨_, rfl⟩
   rw [hD] at hx hcx HD
   have hcv : IntKind.u32.wrap (l[k].toNat : Int) = (l[k].toNat : Int) := by
    have : IntKind.u32.wrap (l[k].toNat : Int) = (l[k].toNat : Int) % 4294967296 := by simp [IntKind.wrap, IntKind.bits, IntKind.signed]
    omega
   clear hC hD
   go_wp2_with fail
   go_loopw [0, 6] (fun cv i wr => ∃ j : Nat, j ≤ 8 ∧ i = .int .i64 j ∧ cv = .int .u32 (tw j D : Int) ∧ w = wr) (fun _ i _ => 8 - (intOf i).toNat)
   case atStart => exact ⟨0, by omega, rfl, rfl, rfl⟩
   case round =>
    obtain ⟨j, hj, rfl, rfl, rfl⟩ := hrel
    by_cases hj8 : j < 8
    ·have hj8' : decide ((j : Int) < 8) = true := by simp; omega
     have htl := tw_lt j D hcx
     have HT := Lh (show tw (j + 1) D = tst (tw j D) from rfl)
     obtain ⟨T, hT⟩ : ∃ T, tw j D = T := ⟨_, rfl⟩
     rw [hT] at HT htl ⊢
     clear hT
     have hm : (T : Int).tmod 2 = ((T % 2 : Nat) : Int) := by rw [Int.tmod_eq_emod_of_nonneg (by omega)]; omega
     have hq : (T : Int).tdiv 2 = ((T / 2 : Nat) : Int) := by rw [Int.tdiv_eq_ediv_of_nonneg (by omega)]; omega
     by_cases hodd : T % 2 = 1
     ·have hb : (((T : Int) % 2) == 1) = true := by rw [beq_iff_eq]; omega
      have hx2 : bits .xor .u32 ((T : Int) / 2) 3988292384 = ((tst T : Nat) : Int) := by
       have := u32_xor_nat (T / 2) 3988292384 (by omega) (by omega)
       unfold tst
       rw [hodd, Nat.mul_one]
       exact this
      go_wp2_with fail
      case roundEnd => exact ⟨⟨j + 1, by omega, by simp, by rw [HT.out], trivial⟩, by simp [intOf]; omega⟩
     ·have hb : (((T : Int) % 2) == 1) = false := by rw [beq_eq_false_iff_ne]; omega
      go_wp2_with fail
      case roundEnd =>
       refine ⟨⟨j + 1, by omega, by simp, ?_, trivial⟩, by simp [intOf]; omega⟩
       rw [HT.out]
       unfold tst
       rw [show T % 2 = 0 by omega]
       simp
    ·obtain rfl : j = 8 := by omega
     go_wp2_with fail
     case roundEnd => exact ⟨⟨k + 1, by omega, by simp, by rw [HS.out, HD.out], trivial⟩, by simp [intOf]; omega⟩
  ·obtain rfl : k = l.length := by omega
   rw [List.take_length]
   have hc0 := crcL_lt 4294967295 l (by omega)
   have HE : Hid ((crcSum l : Int) = ((4294967295 - crcL 4294967295 l : Nat) : Int)) := Lh rfl
   obtain ⟨C, hC⟩ : ∃ C, crcL 4294967295 l = C := ⟨_, rfl⟩
   rw [hC] at hc0 HE ⊢
   have hx : bits .xor .u32 (C : Int) 4294967295 = ((4294967295 - C : Nat) : Int) := by
    have := u32_xor_nat C 4294967295 hc0 (by omega)
    rw [Nat.xor_comm, ones_xor C hc0] at this
    exact this
   obtain ⟨E, hE⟩ : ∃ E, 4294967295 - C = E := ⟨_, rfl⟩
   rw [hE] at hx HE
   rw [show ((E : Nat) : Int) = q from HE.out.symm.trans HQ.out] at hx
   clear hE hC
   go_wp2_with fail
   go_ret
   exact ⟨rfl, rfl⟩
theorem rSum (A : Option Addr) (l : List UInt8) (c : Nat) (w : World) (h : Rd w A l) (hl : l.length ≤ 1000000) :
  Calls Tryz.prog 98 #[.slice A l.length c] w fun e w' => e = .returned (.int .u32 (crcSum l : Int)) ∧ w = w' := by
 have HA := Lh (rAdd A l c w h hl)
 obtain ⟨q, hq⟩ : ∃ q : Int, (crcSum l : Int) = q := ⟨_, rfl⟩
 rw [hq] at HA ⊢
 clear h hq
 go_enter Tryz.func98, Tryz.ntmps98
 go_wp2_with fail
 refine HA.out.mono ?_
 rintro e u ⟨rfl, rfl⟩
 go_wp2_with fail
 go_ret
 exact ⟨rfl, rfl⟩
theorem rCrcPut (A : Option Addr) (l : List UInt8) (c : Nat) (w : World) (h : Rd w A l) (hl : l.length ≤ 900000) :
  Calls Tryz.prog 154 #[.slice A l.length c] w (RetB w (crcPut l)) := by
 have hlt := crcSum_lt l
 have HS := Lh (rSum A l c w h (by omega))
 have HP := Lh (rPut (crcSum l) 4 w (by omega) (by omega))
 have hbl : (be (crcSum l) 4).length = 4 := be_length _ _
 have HC := Lh (fun A2 c2 W (hg : Chg Non w W) (h2 : Rd W A2 (be (crcSum l) 4)) => rCat A l c A2 (be (crcSum l) 4) c2 W (h.non hg) h2 (by rw [hbl]; omega))
 have hw : IntKind.u64.wrap (crcSum l : Int) = (crcSum l : Int) := by
  have : IntKind.u64.wrap (crcSum l : Int) = (crcSum l : Int) % 18446744073709551616 := by simp [IntKind.wrap, IntKind.bits, IntKind.signed]
  omega
 have HE : Hid (crcPut l = l ++ be (crcSum l) 4) := Lh rfl
 rw [HE.out]
 obtain ⟨L, hL⟩ : ∃ L, be (crcSum l) 4 = L := ⟨_, rfl⟩
 rw [hL] at HP HC ⊢
 obtain ⟨s, hs⟩ : ∃ s, crcSum l = s := ⟨_, rfl⟩
 rw [hs] at HS HP hw
 clear hbl HE hL hs h
 go_enter Tryz.func154, Tryz.ntmps154
 go_wp2_with fail
 refine HS.out.mono ?_
 rintro e u ⟨rfl, rfl⟩
 go_wp2_with fail
 refine HP.out.mono ?_
 rintro e u1 ⟨A2, c2, rfl, h1, h2, h3, h4⟩
 have HG := Lh h4
 have HO := Lh h3
 clear h1 h2 h3 h4
 go_wp2_with fail
 refine (HC.out A2 c2 _ HG.out HO.out.rd).mono ?_
 rintro e u2 ⟨A3, c3, rfl, k1, k2, k3, k4⟩
 have HR := Lh (RetB.from (show RetB u1 (l ++ L) (.returned (.slice A3 (l ++ L).length c3)) u2 from ⟨A3, c3, rfl, k1, k2, k3, k4⟩) HG.out)
 clear k1 k2 k3 k4
 obtain ⟨M, hM⟩ : ∃ M, l ++ L = M := ⟨_, rfl⟩
 rw [hM] at HR ⊢
 have HM := Lh hM
 clear hM
 go_wp2_with fail
 go_ret
 rw [HM.out]
 exact HR.out
end
section
open Go.RowKit
theorem ownB_two (B : Nat) (w : World) (x y : UInt8) (hB : B ≤ w.heap.size) : OwnB B (w.alloc (.cells #[.int .u8 (x.toNat : Int), .int .u8 (y.toNat : Int)] 5)) (.slice (some ⟨w.heap.size, 0, none⟩) 2 2) [x, y] :=
 ⟨by simp, .inr ⟨w.heap.size, 2, _, rfl, hB, heap_alloc_new _ _, Nat.le_refl _, by unfold maxLen; omega, by simp, by simp [bv]⟩⟩
theorem wpList_bytes {ops : Array Oper} {rest : List Oper} {o : Oper} {a : Act} {w : World} {Q : Exit → Act → World → Prop} (hgd : o.guard = none) (s x : Operand)
  (ho : o.op = .call { callee := .builtin .append, args := #[s, x], argTypes := #[29, 29] })
  (B : Nat) (v : Value) (l : List UInt8) (hs : a.eval s = v) (hown : OwnB B w v l) (A : Option Addr) (m : List UInt8) (c : Nat) (hx : a.eval x = .slice A m.length c) (hm : Rd w A m) (hN : m = [] → A = none ∧ c = 0)
  (hl : l.length ≤ 1000000) (hl2 : m.length ≤ 1000000) (hB : B ≤ w.heap.size)
  (h : ∀ v2 w2, OwnB B w2 v2 (l ++ m) → Chg (fun k => B ≤ k) w w2 → wpList Tryz.prog ops Q rest (a.put o.dst v2) w2) : wpList Tryz.prog ops Q (o :: rest) a w := by
 obtain ⟨i0, hi0, hz0, hs0, hb0⟩ := info_parts info_u8
 by_cases hz : m = []
 ·obtain ⟨rfl, rfl⟩ := hN hz
  subst hz
  exact wpList_append_own_none hgd s x 29 ho B 5 i0 1 Tryz.underlying29 hi0 v l.length (l.map bv) hs hown hx (h v w (by rw [List.append_nil]; exact hown) (Chg.refl _ _))
 have h0 : 0 < m.length := List.length_pos_iff.2 hz
 obtain ⟨b, off, rfl, _, hcell⟩ := hm.at_ h0
 refine wpList_append_lies w hgd s x 29 ho B 5 i0 _ 1 1 Tryz.underlying29 hi0 hz0 hs0 hb0 rfl (by omega) v l.length (l.map bv) hs hown ⟨b, off, none⟩ m.length c (m.map bv) hx (by simp) (news_of hcell) (bv_one m) h0 (by unfold maxLen; omega) (by omega) hB _ rfl ?_
 intro g cap w2 h2 hgrow hat hlt
 refine h _ _ ?_ ?_
 ·unfold OwnB
  rw [List.length_append, List.map_append]
  exact h2
 ·refine (Chg.refl (fun k => B ≤ k) w).grown hgrow fun g' hg' => .inl ?_
  rcases hown.2 with ⟨rfl, _⟩ | ⟨g2, cap2, cur, rfl, hB2, _⟩
  ·simp [Value.ownBlock] at hg'
  ·obtain rfl : g2 = g' := by simpa [Value.ownBlock] using hg'
   exact hB2
def slLen : Value → Nat
 | .slice _ n _ => n
 | _ => 0
theorem rSeal (kind : UInt8) (A : Option Addr) (l : List UInt8) (c : Nat) (w : World) (h : Rd w A l) (hN : l = [] → A = none ∧ c = 0) (hl : l.length ≤ 58) :
  Calls Tryz.prog 124 #[.int .u8 (kind.toNat : Int), .slice A l.length c] w (RetB w (sealL kind l)) := by
 have HR := Lh h
 have HN := Lh hN
 clear h hN
 have hz : ((UInt8.ofNat l.length).toNat : Int) = (l.length : Int) := by rw [UInt8.toNat_ofNat']; omega
 have hT : ([kind, UInt8.ofNat l.length] ++ l ++ List.replicate (58 - l.length) 0).length = 60 := by simp; omega
 have HP := Lh (fun A2 c2 W (hg : Chg Non w W) (h2 : Rd W A2 ([kind, UInt8.ofNat l.length] ++ l ++ List.replicate (58 - l.length) 0)) => (rCrcPut A2 _ c2 W h2 (by rw [hT]; omega)).mono (fun e w' h => RetB.from h hg))
 rw [hT] at HP
 clear hT
 have HS : Hid (sealL kind l = crcPut ([kind, UInt8.ofNat l.length] ++ l ++ List.replicate (58 - l.length) 0)) := Lh rfl
 rw [HS.out]
 obtain ⟨Q, hQ⟩ : ∃ Q, crcPut ([kind, UInt8.ofNat l.length] ++ l ++ List.replicate (58 - l.length) 0) = Q := ⟨_, rfl⟩
 rw [hQ] at HP ⊢
 clear hQ HS
 go_enter Tryz.func124, Tryz.ntmps124
 go_wp2_with (first
   | (refine sel (some 13) (.call { callee := .builtin .append, args := #[.tmp 11, .tmp 12], argTypes := #[29, 29] }) ?_
      refine Hole1.out ?_))
 refine ⟨?_⟩
 have ho2 := ownB_two w.heap.size w kind (UInt8.ofNat l.length) (Nat.le_refl _)
 rw [hz] at ho2
 refine wpList_bytes rfl (.tmp 11) (.tmp 12) rfl w.heap.size _ [kind, UInt8.ofNat l.length] rfl ho2 A l c rfl (HR.out.non ((Chg.refl Non w).alloc _)) HN.out (by simp) (by omega) (by simp) ?_
 intro v2 w2 hO hg
 have HO := Lh hO
 have HG := Lh (((Chg.refl Non w).alloc _).then_new hg (fun x e => e))
 clear hO hg ho2
 go_wp2_with fail
 go_loopw [5] (fun v wr => ∃ j : Nat, j + l.length ≤ 58 ∧ OwnB w.heap.size wr v ([kind, UInt8.ofNat l.length] ++ l ++ List.replicate j 0) ∧ Chg Non w wr) (fun v _ => 60 - slLen v)
 case atStart => exact ⟨0, by omega, by simpa using HO.out, HG.out⟩
 case round =>
  obtain ⟨j, hj, hO, hC⟩ := hrel
  have hlen : ([kind, UInt8.ofNat l.length] ++ l ++ List.replicate j 0).length = l.length + j + 2 := by simp <;> omega
  obtain ⟨A2, c2, rfl, k1, k2, k3⟩ := hO.slice
  rw [hlen] at hO k1 ⊢
  have HO := Lh hO
  have HC := Lh hC
  have HK := Lh k3.rd
  clear hO hC k3
  by_cases hlt : j + l.length < 58
  ·have hd : decide (((l.length + j + 2 : Nat) : Int) < 60) = true := by simp; omega
   go_wp2_with (first
     | (refine sel (some 19) (.call { callee := .builtin .append, args := #[.tmp 17, .tmp 18], argTypes := #[29, 29] }) ?_
        refine Hole1.out ?_))
   refine ⟨?_⟩
   refine wpList_snoc rfl (.tmp 17) (.tmp 18) rfl w.heap.size _ _ rfl (HO.out.non ((Chg.refl _ _).alloc _)) wr.heap.size 0 rfl (by go_simp) (by rw [hlen]; omega) (by have := HC.out.size; simp; omega) ?_
   intro v3 w3 hO3 hg3
   have HG3 := Lh ((HC.out.alloc _).then_new hg3 (fun x e => e))
   obtain ⟨A3, c3, rfl, _, _, _⟩ := hO3.slice
   have hlen3 : ([kind, UInt8.ofNat l.length] ++ l ++ List.replicate j 0 ++ [0]).length = l.length + j + 3 := by rw [List.length_append, hlen]; rfl
   rw [hlen3] at hO3 ⊢
   have HO3 := Lh hO3
   clear hO3 hg3
   go_wp2_with fail
   case roundEnd =>
    refine ⟨⟨j + 1, by omega, ?_, HG3.out⟩, by simp [slLen]; omega⟩
    rw [List.replicate_succ', ← List.append_assoc]
    exact HO3.out
  ·obtain rfl : j = 58 - l.length := by omega
   rw [show l.length + (58 - l.length) + 2 = 60 by omega]
   have HPut := Lh (HP.out A2 c2 wr HC.out HK.out)
   go_wp2_with fail
   refine HPut.out.mono ?_
   rintro e u ⟨A4, c4, rfl, k4, k5, k6, k7⟩
   have HR4 := Lh (show RetB w Q (.returned (.slice A4 Q.length c4)) u from ⟨A4, c4, rfl, k4, k5, k6, k7⟩)
   clear k4 k5 k6 k7
   go_wp2_with fail
   go_ret
   exact HR4.out
end
section
open Go.RowKit
theorem sealL_len (k : UInt8) (f : List UInt8) (h : f.length ≤ 58) : (sealL k f).length = 64 := by
 simp [sealL, crcPut, be_length]; omega
theorem crcOk_put (x : List UInt8) : crcOk (crcPut x) = true := by
 have hl : (crcPut x).length = x.length + 4 := by simp [crcPut, be_length]
 unfold crcOk
 rw [decide_eq_true_eq]
 refine ⟨by omega, ?_⟩
 rw [hl, Nat.add_sub_cancel]
 have : (crcPut x).take x.length = x := by simp [crcPut]
 rw [this]
theorem open_seal (k : UInt8) (f : List UInt8) (h : f.length ≤ 58) : openL k (sealL k f) = some f := by
 have hlen := sealL_len k f h
 have hsz : sizeL (sealL k f) = f.length := by
  simp [sizeL, sealL, crcPut, List.getD]
  omega
 have hd : ∀ t, (sealL k f).drop (2 + t) = (f ++ List.replicate (58 - f.length) 0 ++ be (crcSum ([k, UInt8.ofNat f.length] ++ f ++ List.replicate (58 - f.length) 0)) 4).drop t := by
  intro t
  simp [sealL, crcPut, Nat.add_comm 2 t]
 have hw : wholeL (sealL k f) = true := by
  unfold wholeL
  rw [hsz, decide_eq_true hlen, decide_eq_true h]
  simp only [Bool.true_and]
  rw [show crcOk (sealL k f) = true from crcOk_put _]
  simp only [Bool.true_and, decide_eq_true_eq]
  rw [hd, List.append_assoc, List.drop_left]
  rw [show 60 - (2 + f.length) = (List.replicate (58 - f.length) (0 : UInt8)).length by simp; omega]
  rw [List.take_left]
  simp
 have h0 : (sealL k f).getD 0 0 = k := by simp [sealL, crcPut]
 unfold openL
 rw [if_pos ⟨hw, h0⟩, hsz]
 have := hd 0
 rw [Nat.add_zero, List.drop_zero] at this
 rw [this, List.append_assoc, List.take_left]
end
section
open Go.RowKit
theorem seal_whole (kind : UInt8) (s : List UInt8) (h64 : s.length = 64) (h0 : s.getD 0 0 = kind) (h1 : sizeL s ≤ 58) : sealL kind ((s.drop 2).take (sizeL s)) = s ↔ wholeL s = true := by
 have hbl : ((s.drop 2).take (sizeL s)).length = sizeL s := by rw [List.length_take, List.length_drop]; omega
 constructor
 ·intro h
  have ho := open_seal kind ((s.drop 2).take (sizeL s)) (by omega)
  rw [h] at ho
  unfold openL at ho
  split at ho
  ·rename_i hw; exact hw.1
  ·cases ho
 ·intro hw
  unfold wholeL at hw
  simp only [Bool.and_eq_true, decide_eq_true_eq] at hw
  obtain ⟨_, hc, _, hz⟩ := hw
  unfold crcOk at hc
  rw [decide_eq_true_eq, h64] at hc
  have hc2 := hc.2
  have ht : [kind, UInt8.ofNat ((s.drop 2).take (sizeL s)).length] ++ (s.drop 2).take (sizeL s) ++ List.replicate (58 - ((s.drop 2).take (sizeL s)).length) 0 = s.take (64 - 4) := by
   rw [hbl, show 58 - sizeL s = 60 - (2 + sizeL s) by omega, ← hz]
   match s, h64 with
   | x :: y :: r, h64 =>
    have hx : x = kind := by simpa using h0
    have hy : UInt8.ofNat (sizeL (x :: y :: r)) = y := by
     apply UInt8.toNat_inj.1
     simp [sizeL]
    rw [hy, hx]
    obtain ⟨n, hn⟩ : ∃ n, sizeL (x :: y :: r) = n := ⟨_, rfl⟩
    rw [hx] at hn
    rw [hn]
    have hn58 : n ≤ 58 := by rw [hx, hn] at h1; exact h1
    have e1 : (kind :: y :: r).drop (2 + n) = r.drop n := by rw [Nat.add_comm]; rfl
    have e2 : (kind :: y :: r).drop 2 = r := rfl
    rw [e1, e2]
    have e3 : r.take 58 = r.take n ++ (r.drop n).take (58 - n) := by
     have := List.take_add (l := r) (i := n) (j := 58 - n)
     rw [show n + (58 - n) = 58 by omega] at this
     exact this
    show kind :: y :: (r.take n ++ (r.drop n).take (60 - (2 + n))) = kind :: y :: r.take 58
    rw [e3, show 60 - (2 + n) = 58 - n by omega]
  unfold sealL
  rw [ht]
  exact hc2
end
end Go.Proofs.YtkgnlobabknkcaaGreat
