/- Package isa's contracts in plain variables. -/
import Derived.Test.YtpcmnphohneddaaGreatDoorIsa11
namespace Go.Proofs.YtpcmnphohneddaaGreatDoor
open Go.RowKit
set_option linter.unusedVariables false

theorem al_1_0 (w : World) (a : Obj) : (w.alloc a).heap[w.heap.size]? = some a := heap_alloc_new w a
theorem al_2_0 (w : World) (a b : Obj) : ((w.alloc a).alloc b).heap[w.heap.size]? = some a := blk0 w a b
theorem al_2_1 (w : World) (a b : Obj) : ((w.alloc a).alloc b).heap[w.heap.size + 1]? = some b := by
  rw [show w.heap.size + 1 = (w.alloc a).heap.size by simp, heap_alloc_new]
theorem al_3_0 (w : World) (a b c : Obj) : (((w.alloc a).alloc b).alloc c).heap[w.heap.size]? = some a := by
  rw [Below.heap_alloc _ _ _ (by simp; omega), al_2_0]
theorem al_3_1 (w : World) (a b c : Obj) : (((w.alloc a).alloc b).alloc c).heap[w.heap.size + 1]? = some b := by
  rw [Below.heap_alloc _ _ _ (by simp), al_2_1]
theorem al_3_2 (w : World) (a b c : Obj) : (((w.alloc a).alloc b).alloc c).heap[w.heap.size + 1 + 1]? = some c := by
  rw [show w.heap.size + 1 + 1 = ((w.alloc a).alloc b).heap.size by simp, heap_alloc_new]

theorem May_v (op a b c : Nat) (n : Int) (q : Bool) (w : World) (h : mayB ⟨op, a, b, c, n⟩ = q) :
    Calls Tryz.prog 57 #[.agg #[.int .u8 op, .int .u8 a, .int .u8 b, .int .u8 c, .int .i64 n]] w fun e w' => e = .returned (.bool q) ∧ Chg Non w w' := by
  subst h
  exact May_ok ⟨op, a, b, c, n⟩ w
theorem Enc_v (op a b c : Nat) (n : Int) (p q r s : Nat) (w : World) (h : mayB ⟨op, a, b, c, n⟩ = true) (he : encI ⟨op, a, b, c, n⟩ = (p, q, r, s)) :
    Calls Tryz.prog 34 #[.agg #[.int .u8 op, .int .u8 a, .int .u8 b, .int .u8 c, .int .i64 n]] w fun e w' => e = .returned (.tuple #[.agg #[.int .u8 p, .int .u8 q, .int .u8 r, .int .u8 s], .int .i64 0]) ∧ Chg Non w w' := by
  have := Encode_ok ⟨op, a, b, c, n⟩ w h
  rw [he] at this
  exact this
theorem Enc_n (op a b c : Nat) (n : Int) (w : World) (h : mayB ⟨op, a, b, c, n⟩ = false) :
    Calls Tryz.prog 34 #[.agg #[.int .u8 op, .int .u8 a, .int .u8 b, .int .u8 c, .int .i64 n]] w fun e w' => e = .returned (.tuple #[.agg #[.int .u8 0, .int .u8 0, .int .u8 0, .int .u8 0], .int .i64 190]) ∧ Chg Non w w' :=
  Encode_no ⟨op, a, b, c, n⟩ w h
theorem Dec_v (p q r s : Nat) (op a b c : Nat) (n : Int) (w : World) (hb : Four (p, q, r, s)) (hd : decI p q r s = ⟨op, a, b, c, n⟩) (h : mayB ⟨op, a, b, c, n⟩ = true) :
    Calls Tryz.prog 16 #[.agg #[.int .u8 p, .int .u8 q, .int .u8 r, .int .u8 s]] w fun e w' => e = .returned (.tuple #[.agg #[.int .u8 op, .int .u8 a, .int .u8 b, .int .u8 c, .int .i64 n], .int .i64 0]) ∧ Chg Non w w' := by
  have := Decode_ok p q r s w hb.1 hb.2.1 hb.2.2.1 hb.2.2.2 (by rw [hd]; exact h)
  rw [hd] at this
  exact this
theorem Dec_n (p q r s : Nat) (w : World) (hb : Four (p, q, r, s)) (h : mayB (decI p q r s) = false) :
    Calls Tryz.prog 16 #[.agg #[.int .u8 p, .int .u8 q, .int .u8 r, .int .u8 s]] w fun e w' => e = .returned (.tuple #[.agg #[.int .u8 0, .int .u8 0, .int .u8 0, .int .u8 0, .int .i64 0], .int .i64 190]) ∧ Chg Non w w' :=
  Decode_no p q r s w hb.1 hb.2.1 hb.2.2.1 hb.2.2.2 h
theorem Text_v (op a b c : Nat) (n : Int) (l : List UInt8) (w : World) (hE : Env w) (h : textL ⟨op, a, b, c, n⟩ = l) :
    Calls Tryz.prog 74 #[.agg #[.int .u8 op, .int .u8 a, .int .u8 b, .int .u8 c, .int .i64 n]] w fun e w' => e = .returned (.string ⟨l.toArray⟩) ∧ Chg Non w w' := by
  subst h
  exact Text_any ⟨op, a, b, c, n⟩ w hE
theorem Parse_v (l : List UInt8) (op a b c : Nat) (n : Int) (w : World) (hE : Env w) (hl : l.length < 1000000) (h : parseC l = some ⟨op, a, b, c, n⟩) :
    Calls Tryz.prog 64 #[.string ⟨l.toArray⟩] w fun e w' => e = .returned (.tuple #[.agg #[.int .u8 op, .int .u8 a, .int .u8 b, .int .u8 c, .int .i64 n], .int .i64 0]) ∧ Chg Non w w' :=
  Parse_yes l ⟨op, a, b, c, n⟩ w hE hl h
theorem textL_len (x : Ins) : (textL x).length < 1000000 := by
  unfold textL
  split
  · rename_i h
    have hb := May.bd h
    have hk := join_small (textW x) (by
      intro y hy
      unfold textW at hy
      simp only [List.mem_cons, List.mem_append] at hy
      rcases hy with rfl | hy | hy | hy | hy
      · have := opAt_name_len x.op; omega
      · have := wordIf_bd _ _ _ hy (by have := hb.a; omega) (by have := hb.a; omega); omega
      · have := wordIf_bd _ _ _ hy (by have := hb.b; omega) (by have := hb.b; omega); omega
      · have := wordIf_bd _ _ _ hy (by have := hb.c; omega) (by have := hb.c; omega); omega
      · have := wordIf_bd _ _ _ hy hb.n0 hb.n1; omega) (by
      unfold textW
      have h1 := wordIf_len (opAt x.op).a x.a
      have h2 := wordIf_len (opAt x.op).b x.b
      have h3 := wordIf_len (opAt x.op).c x.c
      have h4 := wordIf_len (decide (0 < (opAt x.op).n)) x.n
      simp only [List.length_cons, List.length_append]
      omega)
    omega
  · simp
theorem ins_eq (op a b c : Nat) (n : Int) (h : Ins.Bd ⟨op, a, b, c, n⟩) (w : World) :
    (binOp .neq 38 (.agg #[.int .u8 op, .int .u8 a, .int .u8 b, .int .u8 c, .int .i64 n]) (.agg #[.int .u8 op, .int .u8 a, .int .u8 b, .int .u8 c, .int .i64 n])).run Tryz.prog w = .ok (.bool false) w := by
  have := (eq_ins ⟨op, a, b, c, n⟩ ⟨op, a, b, c, n⟩ h h w).2
  simpa [insC] using this
theorem four_eq (p q r s : Nat) (h : Four (p, q, r, s)) (w : World) :
    (binOp .neq 41 (.agg #[.int .u8 p, .int .u8 q, .int .u8 r, .int .u8 s]) (.agg #[.int .u8 p, .int .u8 q, .int .u8 r, .int .u8 s])).run Tryz.prog w = .ok (.bool false) w := four_same p q r s h.1 h.2.1 h.2.2.1 h.2.2.2 w
theorem enc_four {x : Ins} (h : mayB x = true) {p q r s : Nat} (he : encI x = (p, q, r, s)) : Four (p, q, r, s) ∧ decI p q r s = x := by
  have h1 := enc_bd h
  have h2 := dec_enc h
  rw [he] at h1 h2
  exact ⟨h1, h2⟩
end Go.Proofs.YtpcmnphohneddaaGreatDoor
