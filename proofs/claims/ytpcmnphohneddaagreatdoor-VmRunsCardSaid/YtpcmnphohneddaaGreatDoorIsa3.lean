/- Walks of package isa: May. -/
import Derived.Test.YtpcmnphohneddaaGreatDoorIsa2
namespace Go.Proofs.YtpcmnphohneddaaGreatDoor
open Go.RowKit
set_option linter.unusedVariables false

/-- an instruction's cells -/
def insC (x : Ins) : Array Value := #[.int .u8 x.op, .int .u8 x.a, .int .u8 x.b, .int .u8 x.c, .int .i64 x.n]

theorem may_of (x : Ins) (o r1 r2 r3 n0 n1 : Bool) (ho : okB x.op = o) (h1 : regB x.a (opAt x.op).a = r1) (h2 : regB x.b (opAt x.op).b = r2) (h3 : regB x.c (opAt x.op).c = r3) (hn0 : decide (0 ≤ x.n) = n0) (hn1 : decide (x.n ≤ (opAt x.op).n) = n1) :
    mayB x = (o && (r1 && (r2 && (r3 && (n0 && n1))))) := by
  subst ho h1 h2 h3 hn0 hn1; rfl

theorem cells5 (w w' : World) (v0 v1 v2 v3 v4 : Value) (t : TypeId) (hg : Chg Non (w.alloc (.cells #[v0, v1, v2, v3, v4] t)) w') :
    w.heap.size < w'.heap.size ∧ w'.cell? ⟨w.heap.size, 0, none⟩ = some v0 ∧ w'.cell? ⟨w.heap.size, 1, none⟩ = some v1 ∧ w'.cell? ⟨w.heap.size, 2, none⟩ = some v2 ∧ w'.cell? ⟨w.heap.size, 3, none⟩ = some v3 ∧ w'.cell? ⟨w.heap.size, 4, none⟩ = some v4 := by
  have hb := new_block hg
  exact ⟨(Array.getElem?_eq_some_iff.1 hb).1, row_cell hb rfl, row_cell hb rfl, row_cell hb rfl, row_cell hb rfl, row_cell hb rfl⟩
set_option maxRecDepth 100000 in
set_option maxHeartbeats 1000000 in
theorem May_ok (x : Ins) (w : World) :
    Calls Tryz.prog 57 #[.agg #[.int .u8 x.op, .int .u8 x.a, .int .u8 x.b, .int .u8 x.c, .int .i64 x.n]] w fun e w' => e = .returned (.bool (mayB x)) ∧ Chg Non w w' := by
  obtain ⟨op, a, b, c, n⟩ := x
  have HO := Lib.hid (fun w => of_any op w)
  obtain ⟨o, ho⟩ : ∃ o, okB op = o := ⟨_, rfl⟩
  have hF : ∃ F, opAt op = F := ⟨_, rfl⟩
  obtain ⟨F, hF⟩ := hF
  obtain ⟨r1, h1⟩ : ∃ r1, regB a F.a = r1 := ⟨_, rfl⟩
  obtain ⟨r2, h2⟩ : ∃ r2, regB b F.b = r2 := ⟨_, rfl⟩
  obtain ⟨r3, h3⟩ : ∃ r3, regB c F.c = r3 := ⟨_, rfl⟩
  obtain ⟨n0, hn0⟩ : ∃ n0, decide (0 ≤ n) = n0 := ⟨_, rfl⟩
  obtain ⟨n1, hn1⟩ : ∃ n1, decide (n ≤ F.n) = n1 := ⟨_, rfl⟩
  have HM := Lib.hid (may_of ⟨op, a, b, c, n⟩ o r1 r2 r3 n0 n1 ho (by rw [hF]; exact h1) (by rw [hF]; exact h2) (by rw [hF]; exact h3) hn0 (by rw [hF]; exact hn1))
  rw [HM.out]
  clear HM
  have R1 := Lib.hid (fun w => register_ok a F.a w)
  have R2 := Lib.hid (fun w => register_ok b F.b w)
  have R3 := Lib.hid (fun w => register_ok c F.c w)
  rw [h1] at R1
  rw [h2] at R2
  rw [h3] at R3
  rw [ho, hF] at HO
  clear h1 h2 h3 ho hF
  have hop : opC F = #[.string ⟨F.name.toArray⟩, .bool F.a, .bool F.b, .bool F.c, .int .i64 F.n] := rfl
  rw [hop] at HO
  clear hop
  obtain ⟨s, hs⟩ : ∃ s : ByteArray, (⟨F.name.toArray⟩ : ByteArray) = s := ⟨_, rfl⟩
  obtain ⟨fa, hfa⟩ : ∃ fa, F.a = fa := ⟨_, rfl⟩
  obtain ⟨fb, hfb⟩ : ∃ fa, F.b = fa := ⟨_, rfl⟩
  obtain ⟨fc, hfc⟩ : ∃ fa, F.c = fa := ⟨_, rfl⟩
  obtain ⟨fn, hfn⟩ : ∃ fa, F.n = fa := ⟨_, rfl⟩
  rw [hs, hfa, hfb, hfc, hfn] at HO
  rw [hfa] at R1
  rw [hfb] at R2
  rw [hfc] at R3
  rw [hfn] at hn1
  clear hs hfa hfb hfc hfn
  have hz1 := fun (w' : World) (hg : Chg Non (w.alloc (.cells #[.int .u8 op, .int .u8 a, .int .u8 b, .int .u8 c, .int .i64 n] 38)) w') => cells5 w w' _ _ _ _ _ _ hg
  have HZ := Lib.hid hz1
  clear hz1
  cases o with
  | false =>
    go_enter Tryz.func57, Tryz.ntmps57
    go_wp2_with fail
    refine (HO.out _).mono ?_
    rintro e w' ⟨rfl, hg⟩
    go_wp2_with fail
    go_ret
    exact ⟨by simp, (((Chg.refl Non w).alloc _).then_non hg).alloc _⟩
  | true =>
    cases r1 with
    | false =>
      go_enter Tryz.func57, Tryz.ntmps57
      go_wp2_with fail
      refine (HO.out _).mono ?_
      rintro e w' ⟨rfl, hg⟩
      obtain ⟨hz, c0, c1, c2, c3, c4⟩ := HZ.out w' hg
      have HG := Lib.hid hg
      clear hg
      go_wp2_with (go_at_call 65; refine (R1.out _).mono ?_; rintro e v ⟨rfl, rfl⟩)
      go_ret
      exact ⟨by simp, (((Chg.refl Non w).alloc _).then_non HG.out).alloc _⟩
    | true =>
      cases r2 with
      | false =>
        go_enter Tryz.func57, Tryz.ntmps57
        go_wp2_with fail
        refine (HO.out _).mono ?_
        rintro e w' ⟨rfl, hg⟩
        obtain ⟨hz, c0, c1, c2, c3, c4⟩ := HZ.out w' hg
        have HG := Lib.hid hg
        clear hg
        go_wp2_with fail
        refine (R1.out _).mono ?_; rintro e v ⟨rfl, rfl⟩
        go_wp2_with fail
        refine (R2.out _).mono ?_; rintro e v ⟨rfl, rfl⟩
        go_wp2_with fail
        go_ret
        exact ⟨by simp, (((Chg.refl Non w).alloc _).then_non HG.out).alloc _⟩
      | true =>
        cases r3 with
        | false =>
          go_enter Tryz.func57, Tryz.ntmps57
          go_wp2_with fail
          refine (HO.out _).mono ?_
          rintro e w' ⟨rfl, hg⟩
          obtain ⟨hz, c0, c1, c2, c3, c4⟩ := HZ.out w' hg
          have HG := Lib.hid hg
          clear hg
          go_wp2_with fail
          refine (R1.out _).mono ?_; rintro e v ⟨rfl, rfl⟩
          go_wp2_with fail
          refine (R2.out _).mono ?_; rintro e v ⟨rfl, rfl⟩
          go_wp2_with fail
          refine (R3.out _).mono ?_; rintro e v ⟨rfl, rfl⟩
          go_wp2_with fail
          go_ret
          exact ⟨by simp, (((Chg.refl Non w).alloc _).then_non HG.out).alloc _⟩
        | true =>
          cases n0 <;> cases n1
          all_goals
            go_enter Tryz.func57, Tryz.ntmps57
            go_wp2_with fail
            refine (HO.out _).mono ?_
            rintro e w' ⟨rfl, hg⟩
            obtain ⟨hz, c0, c1, c2, c3, c4⟩ := HZ.out w' hg
            have HG := Lib.hid hg
            clear hg
            go_wp2_with fail
            refine (R1.out _).mono ?_; rintro e v ⟨rfl, rfl⟩
            go_wp2_with fail
            refine (R2.out _).mono ?_; rintro e v ⟨rfl, rfl⟩
            go_wp2_with fail
            refine (R3.out _).mono ?_; rintro e v ⟨rfl, rfl⟩
            go_wp2_with fail
            go_ret
            exact ⟨by simp, (((Chg.refl Non w).alloc _).then_non HG.out).alloc _⟩
end Go.Proofs.YtpcmnphohneddaaGreatDoor
