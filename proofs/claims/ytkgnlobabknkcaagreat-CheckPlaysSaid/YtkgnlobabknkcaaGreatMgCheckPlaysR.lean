/- CheckPlays, part 18 of 27: contracts of the functions that it reaches, and the laws that they need, merged and shortened (from my texts XCkG). -/
import Derived.Test.YtkgnlobabknkcaaGreatMgCheckPlaysA
import Derived.Test.YtkgnlobabknkcaaGreatMgCheckPlaysE
import Derived.Test.YtkgnlobabknkcaaGreatMgCheckPlaysQ
namespace Go.Proofs.YtkgnlobabknkcaaGreat
set_option linter.unusedVariables false
set_option linter.unusedSimpArgs false
set_option maxHeartbeats 8000000
set_option maxRecDepth 100000
section
open Go.RowKit Go.Shelf
attribute [local go_sem] Oper.semAt_some
def fdA (t : Array Value) (fr : Int) (vb vd : Value) : Array Value := t ++ #[.int .i64 fr, vb, vd]
def zFd : Array Value := fdA (tiA 0 0 zTag 0) 0 (.slice none 0 0) (.slice none 0 0)
theorem info_fd : (Tryz.prog.info? 80).map (·.size) = some 38 := by kernel_rfl
theorem info_st : (Tryz.prog.info? 25).map (·.size) = some 3 := by kernel_rfl
theorem zFd_size : zFd.size = 38 := by kernel_rfl
theorem zFd_one : zFd.all (·.oneCell') = true := by kernel_rfl
structure GtI (pd b0 bF bE b8 B : Nat) (l : List UInt8) (W : World) : Prop where
 d : W.heap[b0]? = some (.cells #[.pointer (some ⟨pd, 0, none⟩)] 33 (0, 0))
 f : W.heap[bF]? = some (.cells zFd 80 (0, 0))
 e : W.heap[bE]? = some (.cells #[.int .i64 0] 34 (0, 0))
 a : ∃ v, W.heap[b8]? = some (.cells #[v] 29 (0, 0)) ∧ W.ownsRow B 5 1 v l.length (l.map bv)
theorem own_row {β : Type} (B : Nat) (e : TypeId) (sz : Nat) (v : Value) (n : Nat) (xs : List Value) : _root_.Go.Own (fun (_ : β) (W : World) => W.ownsRow B e sz v n xs) := fun s X Y row hs hg hrow => by
 have hs : X.ownsRow B e sz v n xs := hs
 refine hs.kept hg ?_
 rcases hs.2 with ⟨rfl, _⟩ | ⟨g, cap, cur, rfl, _, hh, _⟩
 ·exact .inl rfl
 ·refine .inr (fun e' => ?_)
  obtain ⟨o, ho, hc⟩ := hrow g e'.symm
  rw [hh] at ho
  injection ho with ho
  subst ho
  cases hc
theorem gtI_own {β : Type} (pd b0 bF bE b8 B : Nat) (f : β → List UInt8) : _root_.Go.Own (fun (s : β) (W : World) => GtI pd b0 bF bE b8 B (f s) W) := fun s X Y row hs hg hrow => by
 obtain ⟨h1, h2, h3, v, h4, h5⟩ := hs
 exact ⟨own_blk b0 _ _ _ () X Y row h1 hg hrow, own_blk bF _ _ _ () X Y row h2 hg hrow, own_blk bE _ _ _ () X Y row h3 hg hrow, v, own_blk b8 _ _ _ () X Y row h4 hg hrow, own_row B _ _ v _ _ () X Y row h5 hg hrow⟩
def RdS (D : Dk) (i : Nat) (v : World) (y : Value × Int) : Prop :=
 (D.up = false ∧ y = (.slice none 0 0, 60)) ∨ (D.up = true ∧ D.sec.length ≤ i ∧ y = (.slice none 0 0, 61)) ∨
 (D.up = true ∧ i < D.sec.length ∧ ∃ A c, y = (.slice A 64 c, 0) ∧ 64 ≤ c ∧ c ≤ maxLen ∧ Rd v A (D.at_ i) ∧ (D.at_ i).length = 64)
theorem Dk.at_len {D : Dk} (h : D.Ok) {i : Nat} (hi : i < D.sec.length) : (D.at_ i).length = 64 := by
 unfold Dk.at_
 by_cases hk : ∃ p ∈ D.cache, p.1 = i
 ·obtain ⟨l, hl⟩ := look_key hk
  rw [hl]
  unfold look at hl
  obtain ⟨q, hq, rfl⟩ := Option.map_eq_some_iff.1 hl
  exact (h.keys q (List.mem_of_find?_eq_some hq)).2
 ·rw [lookN (fun q hq e => hk ⟨q, hq, e⟩)]
  simp only [Option.getD_none]
  rw [List.getD, List.getElem?_eq_getElem hi]
  exact h.secs _ (List.getElem_mem hi)
theorem Read_all (pd ps pm : Nat) (D : Dk) (i : Nat) (w : World) (h : IsD w pd ps pm D) :
  Calls Tryz.prog 17 #[.pointer (some ⟨pd, 0, none⟩), .int .i64 (i : Int)] w fun e w' => ∃ y : Value × Int, e = .returned (.tuple #[y.1, .int .i64 y.2]) ∧ Chg Non w w' ∧ RdS D i w' y := by
 cases hu : D.up with
 | false =>
  refine (Read_down pd ps pm D i w h hu).mono ?_
  rintro e w' ⟨rfl, rfl⟩
  exact ⟨(.slice none 0 0, 60), rfl, Chg.refl _ _, .inl ⟨hu, rfl⟩⟩
 | true =>
  by_cases hi : i < D.sec.length
  ·refine (Read_any pd ps pm D i w h hu hi).mono ?_
   rintro e w' hr
   have hl := Dk.at_len h.1 hi
   obtain ⟨A, c, rfl, h1, h2, h3, h4⟩ := hr
   rw [hl] at h1 ⊢
   exact ⟨(.slice A 64 c, 0), rfl, h4, .inr (.inr ⟨hu, hi, A, c, rfl, h1, h2, h3.rd, hl⟩)⟩
  ·refine (Read_no_sector pd ps pm D i w h hu (by omega)).mono ?_
   rintro e w' ⟨rfl, rfl⟩
   exact ⟨(.slice none 0 0, 61), rfl, Chg.refl _ _, .inr (.inl ⟨hu, by omega, rfl⟩)⟩
theorem res_get {tmps : Array Value} {W : World} {bF bE : Nat} {F : Array Value} {v : Int} (hp : tmps.getD 4 undef = .pointer (some ⟨bF, 0, none⟩)) (hq : tmps.getD 5 undef = .pointer (some ⟨bE, 0, none⟩)) (hF : W.heap[bF]? = some (.cells F 80 (0, 0))) (hs : F.size = 38)
  (hE : W.heap[bE]? = some (.cells #[.int .i64 v] 34 (0, 0))) : (results Tryz.f65 tmps).run Tryz.prog W = .ok (.tuple #[.agg F, .int .i64 v]) W := by
 have hc := blk_cell hE 0 (v := .int .i64 v) rfl
 have hp' : tmps[4]?.getD undef = .pointer (some ⟨bF, 0, none⟩) := by simpa using hp
 have hq' : tmps[5]?.getD undef = .pointer (some ⟨bE, 0, none⟩) := by simpa using hq
 have hl := run_loadVar_row (P := Tryz.prog) W bF 80 80 F (0, 0) _ hF Tryz.underlying80 rfl (by rw [hs]; exact info_fd)
 have hle : (loadVar 34 ⟨bE, 0, none⟩).run Tryz.prog W = .ok (.int .i64 v) W := by simp [go_sem, hc]
 simp [results, Tryz.results65, hp', hq', asAddr, hle, hl]
theorem wpListIn_rowA {F : Fence} {n : Nat} {P : Program} {w : World} {ops : Array Oper} {rest : List Oper} {o : Oper} {a : Act} {Q : Exit → Act → World → Prop} (hgd : o.guard = none) (ty : TypeId) (x y : Operand) (ho : o.op = .store ty x y)
  (g : Nat) (cells : Array Value) (hx : a.eval x = .pointer (some ⟨g, 0, none⟩)) (hy : a.eval y = .agg cells)
  (t : TypeId) (old : Array Value) (hg : w.heap[g]? = some (.cells old t (0, 0))) (hi : (P.info? ty).map (·.size) = some cells.size)
  (hold : old.size = cells.size) (h1 : cells.all (·.oneCell') = true)
  (h : ∀ W, Chg (fun k => k = g) w W → W.heap[g]? = some (.cells cells t (0, 0)) → wpListIn F n P ops Q rest (a.put o.dst undef) W) : wpListIn F n P ops Q (o :: rest) a w := by
 refine wpListIn_plain hgd fun K hK => ?_
 unfold Oper.wpIn
 refine ⟨by simp [Oper.about, ho], ?_⟩
 rw [Oper.semAt_plain F _ _ (by rw [ho]; intro c hc; cases hc)]
 unfold execOp
 simp only [ho, hx, hy, Instr.storeAt, Instr.sureAddr, Sem.run_bind, Sem.run_pure, Result.andThen_ok, run_storeVar_row w g t ty old cells hg hi hold h1]
 exact hK _ _ (h _ ((Chg.refl (fun k => k = g) _).setRow (.inl rfl) _) (setRow_heap _ _ _ _ _ _ hg))
theorem wpListIn_valA {F : Fence} {n : Nat} {P : Program} {w : World} {ops : Array Oper} {rest : List Oper} {o : Oper} {a : Act} {Q : Exit → Act → World → Prop} (hgd : o.guard = none) (t : TypeId) (l : Array (Nat × Operand)) (ho : o.op = .build t l) (d : Option Tmp) (v : Value) (hdst : o.dst = d)
  (he : (execOp a.eval o).run P w = .ok (.value v) w) (h : wpListIn F n P ops Q rest (a.put d v) w) : wpListIn F n P ops Q (o :: rest) a w := by
 subst hdst
 refine wpListIn_plain hgd fun K hK => ?_
 unfold Oper.wpIn
 refine ⟨by simp [Oper.about, ho], ?_⟩
 rw [Oper.semAt_plain F _ _ (by rw [ho]; intro c hc; cases hc), he]
 exact hK _ _ h
theorem selIn {F : Fence} {n : Nat} {P : Program} {ops : Array Oper} {rest : List Oper} {a : Act} {w : World} {Q : Exit → Act → World → Prop} (d : Option Tmp) (op : Op) {ty : TypeId} {pos : String} {af : Array Edge} {g : Option (Nat × Bool)}
  (h : wpListIn F n P ops Q (⟨d, op, ty, pos, af, g⟩ :: rest) a w) : wpListIn F n P ops Q (⟨d, op, ty, pos, af, g⟩ :: rest) a w := h
def secB (D : Dk) (p : Nat) (pre : List (Fin 95)) : List UInt8 := pre.flatMap fun k => D.at_ (132 + 96 * p + k.val)
theorem secB_snoc (D : Dk) (p : Nat) (pre : List (Fin 95)) (k : Fin 95) : secB D p (pre ++ [k]) = secB D p pre ++ D.at_ (132 + 96 * p + k.val) := by
 unfold secB; rw [List.flatMap_append]; simp
theorem secB_all (D : Dk) (p : Nat) : secB D p (finTo 95) = kAll D p := by
 unfold secB kAll finTo
 have h : (List.finRange 95).map Fin.val = List.range 95 := by decide +kernel
 rw [List.take_of_length_le (by simp), ← h, List.flatMap_map]
theorem keepsFrom_lt {S : Nat → Prop} {a b : World} {B : Nat} (h : Chg S a b) (hS : ∀ k, S k → k < B) : KeepsFrom B a b :=
 ⟨h.size, fun k o hk h1 _ => (h.block k (Array.getElem?_eq_some_iff.1 h1).1 (fun e => by have := hS k e; omega)).trans h1⟩
theorem secB_len {D : Dk} (h : D.Ok) (p : Nat) : ∀ (pre : List (Fin 95)), (∀ k ∈ pre, 132 + 96 * p + k.val < D.sec.length) → (secB D p pre).length = 64 * pre.length
 | [], _ => rfl
 | k :: pre, hk => by
  unfold secB
  rw [List.flatMap_cons, List.length_append, Dk.at_len h (hk k (List.mem_cons_self ..)), List.length_cons]
  have := secB_len h p pre (fun j hj => hk j (List.mem_cons_of_mem _ hj))
  unfold secB at this
  rw [this]; omega
theorem last_in : (⟨94, by omega⟩ : Fin 95) ∈ finTo 95 := by decide +kernel
theorem tiRd_facts (s : List UInt8) : (tiRd s).1.hash.length = 32 ∧ ((tiRd s).2 = true → 1 ≤ (tiRd s).1.n ∧ 1 ≤ (tiRd s).1.size ∧ (tiRd s).1.size ≤ 6080) := by
 refine ⟨rdTag_len _ _, fun h => ?_⟩
 unfold tiRd at h ⊢
 simp only [Bool.and_eq_true, decide_eq_true_eq] at h
 exact ⟨h.1.1.2, h.1.2, h.2⟩
theorem tiRead_any (A : Option Addr) (l : List UInt8) (cap : Nat) (w : World) (hr : Rd w A l) (hl : l.length = 64) (hcap : 64 ≤ cap) (hm : cap ≤ maxLen) :
  Calls Tryz.prog 109 #[.slice A l.length cap] w fun e w' => e = .returned (.tuple #[.agg (tiA (tiRd l).1.n (tiRd l).1.size (tiRd l).1.hash (tiRd l).1.sum), .bool (tiRd l).2]) ∧ Chg Non w w' := by
 cases ho : openL 3 l with
 | none =>
  have := tiRead_core [] (by simp) 70 A l cap w (fun W hg => (Open_none 3 A l cap W (hr.non hg) (by omega) (by omega) (by omega) hm ho).mono (by
    rintro e w' ⟨rfl, hg'⟩
    exact ⟨none, 0, rfl, Rd.nil _ _, hg'⟩))
  unfold tiRd
  rw [ho]
  exact this
 | some m =>
  have hml : m.length ≤ 65536 := by
   unfold openL at ho
   split at ho
   ·injection ho with ho
    rw [← ho, List.length_take, List.length_drop]; omega
   ·cases ho
  have := tiRead_core m hml 0 A l cap w (fun W hg => (Open_some 3 A l m cap W (hr.non hg) (by omega) (by omega) (by omega) hm ho).mono (by
    rintro e w' ⟨A1, c1, rfl, _, _, ho1, hg'⟩
    exact ⟨A1, c1, rfl, ho1.rd, hg'⟩))
  unfold tiRd
  rw [ho]
  exact this
structure GtD (w : World) (bF bE b8 b12 Dd g c : Nat) (l : List UInt8) (TA : Array Value) (W : World) : Prop where
 f : W.heap[bF]? = some (.cells zFd 80 (0, 0))
 e : W.heap[bE]? = some (.cells #[.int .i64 0] 34 (0, 0))
 a : W.heap[b8]? = some (.cells #[.slice (some ⟨g, 0, none⟩) 6080 c] 29 (0, 0))
 t : W.heap[b12]? = some (.cells TA 78 (0, 0))
 r : Rd W (some ⟨g, 0, none⟩) l
 k : W.heap[Dd]? = some (.deferred (some []))
 g : Chg Non w W
theorem GtD.non {w : World} {bF bE b8 b12 Dd g c : Nat} {l : List UInt8} {TA : Array Value} {W W' : World} (h : GtD w bF bE b8 b12 Dd g c l TA W) (hg : Chg Non W W') : GtD w bF bE b8 b12 Dd g c l TA W' :=
 ⟨blk_keep h.f hg (fun e => e), blk_keep h.e hg (fun e => e), blk_keep h.a hg (fun e => e), blk_keep h.t hg (fun e => e), h.r.non hg, blk_keep h.k hg (fun e => e), h.g.then_non hg⟩
theorem fdA_size (TA : Array Value) (fr : Int) (vb vd : Value) (h : TA.size = 35) : (fdA TA fr vb vd).size = 38 := by simp [fdA, h]
theorem fdA_one (TA : Array Value) (fr : Int) (A2 : Option Addr) (n2 c2 : Nat) (A3 : Option Addr) (n3 c3 : Nat) (h : TA.all (·.oneCell') = true) : (fdA TA fr (.slice A2 n2 c2) (.slice A3 n3 c3)).all (·.oneCell') = true := by
 unfold fdA
 rw [Array.all_append, h]
 kernel_rfl
theorem fd_at (TA C : Array Value) (h : TA.size = 35) (hC : C.size = 38) (i : Nat) :
  (Array.foldl (fun (cs : Array Value) (x : Value × Nat) => cs.setIfInBounds x.2 x.1) C TA.zipIdx 0 TA.size)[i]? = if i < 35 then TA[i]? else C[i]? := by
 have e : Array.foldl (fun (cs : Array Value) (x : Value × Nat) => cs.setIfInBounds x.2 x.1) C TA.zipIdx 0 TA.size = List.foldl (fun (cs : Array Value) (x : Value × Nat) => cs.setIfInBounds (0 + x.2) x.1) C (TA.toList.zipIdx 0) := by
  have e1 : TA.size = TA.zipIdx.size := by simp
  rw [e1, ← Array.foldl_toList, Array.toList_zipIdx]
  simp only [Nat.zero_add]
 rw [e, fold_setG, hC]
 simp only [Nat.zero_add, Nat.add_zero, Nat.zero_le, true_and, Nat.sub_zero, Array.length_toList, h]
 by_cases hi : i < 35
 ·rw [if_pos hi, if_pos ⟨hi, by omega⟩, Array.getElem?_toList]
 ·rw [if_neg hi, if_neg (fun e => hi e.1)]
theorem fd_build1 (TA C : Array Value) (h : TA.size = 35) (hC : C.size = 38) : (Array.foldl (fun (cs : Array Value) (x : Value × Nat) => cs.setIfInBounds x.2 x.1) C TA.zipIdx 0 TA.size).size = 38 := by
 have h1 := fd_at TA C h hC 37
 have h2 := fd_at TA C h hC 38
 rw [if_neg (by omega)] at h1 h2
 rw [Array.getElem?_eq_getElem (show 37 < C.size by omega)] at h1
 rw [Array.getElem?_eq_none (show C.size ≤ 38 by omega), Array.getElem?_eq_none_iff] at h2
 have := (Array.getElem?_eq_some_iff.1 h1).1
 omega
theorem fd_build2 (TA C : Array Value) (fr : Int) (vb vd : Value) (h : TA.size = 35) (hC : C.size = 38) :
  ((((Array.foldl (fun (cs : Array Value) (x : Value × Nat) => cs.setIfInBounds x.2 x.1) C TA.zipIdx 0 TA.size).setIfInBounds 35 (.int .i64 fr)).setIfInBounds 36 vb).setIfInBounds 37 vd) = fdA TA fr vb vd := by
 have hs := fd_build1 TA C h hC
 apply Array.ext_getElem?
 intro i
 have hi := fd_at TA C h hC i
 unfold fdA
 simp only [Array.getElem?_setIfInBounds, Array.size_setIfInBounds, hs, hi]
 rw [Array.getElem?_append, h]
 by_cases h1 : i < 35
 ·rw [if_neg (by omega), if_neg (by omega), if_neg (by omega), if_pos h1, if_pos h1]
 ·rw [if_neg h1, if_neg h1]
  by_cases h5 : i = 35
  ·subst h5; rfl
  ·by_cases h6 : i = 36
   ·subst h6; rfl
   ·by_cases h7 : i = 37
    ·subst h7; rfl
    ·rw [if_neg (by omega), if_neg (by omega), if_neg (by omega), Array.getElem?_eq_none (by omega), Array.getElem?_eq_none (by simp; omega)]
theorem put_keep {W : World} {k l : Nat} {o : Obj} (o' : Obj) (h : W.heap[k]? = some o) (hne : k ≠ l) : (W.putObj l o').heap[k]? = some o :=
 ((grownBy_putObj' W l o').block k (Array.getElem?_eq_some_iff.1 h).1 (fun e => hne (by injection e))).trans h
theorem put_chg {w W : World} {l : Nat} (o' : Obj) (h : Chg Non w W) (hl : w.heap.size ≤ l) : Chg Non w (W.putObj l o') :=
 h.grown (grownBy_putObj' W l o') (fun g e => .inr (by injection e with e; omega))
theorem get_in (pd ps pm p : Nat) (hp2 : p < 2) (D : Dk) (w : World) (h : IsD w pd ps pm D) :
  CallsIn Fence.wide 3 Tryz.prog 65 #[.pointer (some ⟨pd, 0, none⟩), .int .i64 (p : Int)] w fun e w' =>
   (D.up = false ∧ e = .returned (.tuple #[.agg zFd, .int .i64 60]) ∧ Chg Non w w') ∨
   (D.up = true ∧ D.sec.length ≤ 226 + 96 * p ∧ e = .returned (.tuple #[.agg zFd, .int .i64 61]) ∧ Chg Non w w') ∨
   (D.up = true ∧ 226 + 96 * p < D.sec.length ∧ kAt D p = none ∧ e = .returned (.tuple #[.agg zFd, .int .i64 0]) ∧ Chg Non w w') ∨
   (D.up = true ∧ 226 + 96 * p < D.sec.length ∧ ∃ n hash s size sum vb vd, kAt D p = some (n, hash, s) ∧ hash.length = 32 ∧ e = .returned (.tuple #[.agg (fdA (tiA n size hash sum) s.frames vb vd), .int .i64 0]) ∧ StaO w.heap.size w' s vb vd ∧ Chg Non w w') := by
 have HD := Lh h
 have HH := Lh (fun W => head_ok p hp2 W)
 have hpI : (p : Int) < 2 := by omega
 have hro : Fence.wide.round = none := rfl
 refine callsIn_of_wp_marks Tryz.func65 rfl trivial ?_ hro
 simp only [Tryz.ntmps65, List.size_toArray, List.length_cons, List.length_nil, Nat.reduceAdd, Nat.reduceSub, Array.replicate_succ, Array.replicate_zero, List.push_toArray, List.append_toArray, List.nil_append, List.cons_append]
 refine wpIn_wide.2 ?_
 go_wp2_with fail
 have hz : (#[.int .i64 0, .int .i64 0, .int .u8 0, .int .u8 0, .int .u8 0, .int .u8 0, .int .u8 0, .int .u8 0, .int .u8 0, .int .u8 0, .int .u8 0, .int .u8 0, .int .u8 0, .int .u8 0, .int .u8 0, .int .u8 0, .int .u8 0, .int .u8 0, .int .u8 0, .int .u8 0, .int .u8 0, .int .u8 0, .int .u8 0, .int .u8 0, .int .u8 0, .int .u8 0, .int .u8 0, .int .u8 0, .int .u8 0, .int .u8 0, .int .u8 0, .int .u8 0, .int .u8 0, .int .u8 0, .int .u32 0, .int .i64 0, .slice none 0 0, .slice none 0 0] : Array Value) = zFd := by kernel_rfl
 rw [hz]
 clear hz
 have hg0 : Chg Non w (((w.alloc (.cells #[.pointer (some ⟨pd, 0, none⟩)] 33)).alloc (.cells zFd 80)).alloc (.cells #[.int .i64 0] 34)) := (((Chg.refl Non w).alloc _).alloc _).alloc _
 have k0 := al_3_0 w (.cells #[.pointer (some ⟨pd, 0, none⟩)] 33) (.cells zFd 80) (.cells #[.int .i64 0] 34)
 have k1 := al_3_1 w (.cells #[.pointer (some ⟨pd, 0, none⟩)] 33) (.cells zFd 80) (.cells #[.int .i64 0] 34)
 have k2 := al_3_2 w (.cells #[.pointer (some ⟨pd, 0, none⟩)] 33) (.cells zFd 80) (.cells #[.int .i64 0] 34)
 obtain ⟨W0, hW0⟩ : ∃ W0, ((w.alloc (.cells #[.pointer (some ⟨pd, 0, none⟩)] 33)).alloc (.cells zFd 80)).alloc (.cells #[.int .i64 0] 34) = W0 := ⟨_, rfl⟩
 rw [hW0] at hg0 k0 k1 k2 ⊢
 obtain ⟨V, hV⟩ : ∃ V, V = W0.drew := ⟨_, rfl⟩
 have HG : Hid (Chg Non w V) := Lh (by rw [hV]; exact hg0.drew)
 have K0 : Hid (V.heap[w.heap.size]? = some (.cells #[.pointer (some ⟨pd, 0, none⟩)] 33 (0, 0))) := Lh (by rw [hV]; exact k0)
 have K1 : Hid (V.heap[w.heap.size + 1]? = some (.cells zFd 80 (0, 0))) := Lh (by rw [hV]; exact k1)
 have K2 : Hid (V.heap[w.heap.size + 1 + 1]? = some (.cells #[.int .i64 0] 34 (0, 0))) := Lh (by rw [hV]; exact k2)
 have hDV : IsD V pd ps pm D := HD.out.non HG.out
 have HDV := Lh hDV
 have d0 := blk_cell K0.out 0 (v := .pointer (some ⟨pd, 0, none⟩)) rfl
 have HS : Hid (Chg Non V V) := Lh (Chg.refl _ _)
 obtain ⟨b0, hb0⟩ : ∃ b, w.heap.size = b := ⟨_, rfl⟩
 obtain ⟨bF, hbF⟩ : ∃ b, b0 + 1 = b := ⟨_, rfl⟩
 obtain ⟨bE, hbE⟩ : ∃ b, bF + 1 = b := ⟨_, rfl⟩
 rw [hb0] at K0 K1 K2 d0 ⊢
 rw [hbF] at K1 K2 ⊢
 rw [hbE] at K2 ⊢
 have HBs := Lh (And.intro hb0 (And.intro hbF hbE))
 clear hW0 k0 k1 k2 hg0 hb0 hbF hbE hDV
 have HDm : Hid (Chg Non V V) := HS
 have hVd : V = W0.drew := hV
 have HRd := Lh (Read_all pd ps pm D (131 + 96 * p) V HDV.out)
 obtain ⟨hd, hhd⟩ : ∃ x : Nat, 131 + 96 * p = x := ⟨_, rfl⟩
 rw [hhd] at HRd HH
 have HHd := Lh hhd
 clear hhd
 apply wp_cutB (α := Value × Int) (f := fun y x => (((((((((x.put (some 16) (.pointer (some ⟨pd, 0, none⟩))).put (some 17) (.int .i64 (p : Int))).put (some 18) (.int .i64 (hd : Int))).put (some 19) (.tuple #[y.1, .int .i64 y.2])).put (some 15) (.tuple #[y.1, .int .i64 y.2])).put (some 20) y.1).put (some 21) (.int .i64 y.2)).put (some 6) y.1).put (some 7) (.int .i64 y.2)))
  (R := fun y v => Chg Non V v ∧ RdS D hd v y)
 ·refine wp_region_held_drew (S := Chg Non V) (by kernel_rfl) (by rw [hV]; exact Chg.refl _ _) (fun hHeld => ?_)
  clear hHeld
  rw [← hV]
  clear hV hVd
  refine hp 0 16 (.pointer (some ⟨pd, 0, none⟩)) rfl HS.out ?_ (hQ := fun _ _ _ h => absurd h.1 (by simp)) (he := (fun W hW => by have hc := hW.cell_some d0 (fun e => e); go_simp))
  refine hp 1 17 (.int .i64 (p : Int)) rfl HS.out ?_ (hQ := fun _ _ _ h => absurd h.1 (by simp))
  refine h1o 2 rfl ?_
  intro K hK
  go_simp
  refine (HH.out V).mono ?_
  rintro e u0 ⟨rfl, rfl⟩
  refine hK.out _ _ HS.out (fun _ => ?_)
  clear hK K
  try simp only [Act.put, sA, sB, sC]
  refine h1o 3 rfl ?_
  intro K hK
  go_simp
  refine HRd.out.mono ?_
  rintro e u ⟨⟨y1, y2⟩, rfl, hg, hrs⟩
  have HS := Lh hg
  refine hK.out _ _ HS.out (fun _ => ?_)
  clear hK K
  simp only
  try simp only [Act.put, sA, sB, sC]
  refine hp 4 15 (.tuple #[y1, .int .i64 y2]) rfl HS.out ?_ (hQ := fun _ _ _ h => absurd h.1 (by simp))
  refine hp 5 20 (y1) rfl HS.out ?_ (hQ := fun _ _ _ h => absurd h.1 (by simp))
  refine hp 6 21 (.int .i64 y2) rfl HS.out ?_ (hQ := fun _ _ _ h => absurd h.1 (by simp))
  refine hp 7 6 (y1) rfl HS.out ?_ (hQ := fun _ _ _ h => absurd h.1 (by simp))
  refine hp 8 7 (.int .i64 y2) rfl HS.out ?_ (hQ := fun _ _ _ h => absurd h.1 (by simp))
  refine hdn ?_ _
  exact ⟨rfl, (y1, y2), by kernel_rfl, hg, hrs⟩
 ·clear hV hVd
  rintro ⟨y1, y2⟩ v ⟨hg, hrs⟩
  have HGv := Lh (HG.out.then_non hg)
  have KE := Lh (blk_keep K2.out hg (fun e => e))
  have KF := Lh (blk_keep K1.out hg (fun e => e))
  have KD := Lh (blk_keep K0.out hg (fun e => e))
  have e0 := blk_cell KE.out 0 (v := .int .i64 0) rfl
  have ef := blk_free KE.out 0
  have hlE := blk_lt KE.out
  have HRs := Lh hrs
  have hbb := HBs.out
  simp only [Act.put, sA, sB, sC]
  by_cases hy : y2 = 0
  case neg =>
   have hyd : (y2 != 0) = true := by simpa using hy
   have HY := Lh hy
   clear hy hg hrs hbb
   go_wp2_with (first
     | (refine sel (some 24) (.build 80 _) ?_; refine wpList_valA rfl (some 24) (.agg zFd) rfl (by kernel_rfl) ?_)
     | (refine sel none (.store 80 (.tmp 4) (.tmp 24)) ?_
        refine wpList_store_rowA rfl 80 (.tmp 4) (.tmp 24) rfl bF zFd rfl rfl 80 zFd KF.out (by rw [zFd_size]; exact info_fd) rfl zFd_one ?_
        intro W9 hgW9 hbW9
        have hne : bE ≠ bF := by have := HBs.out; omega
        have e9 := blk_cell (blk_keep KE.out hgW9 hne) 0 (v := .int .i64 0) rfl
        have f9 := blk_free (blk_keep KE.out hgW9 hne) 0))
   have hne : bE ≠ bF := by have := HBs.out; omega
   have hE9 := blk_set 0 (.int .i64 y2) (blk_keep KE.out hgW9 hne)
   have hF9 : (W9.setCell ⟨bE, 0, none⟩ (.int .i64 y2)).heap[bF]? = some (.cells zFd 80 (0, 0)) := blk_keep hbW9 (chg_set W9 bE 0 _) (fun e => hne e.symm)
   have hG9 : Chg Non w (W9.setCell ⟨bE, 0, none⟩ (.int .i64 y2)) := (HGv.out.then_new hgW9 (fun x e => by have e : x = bF := e; have := HBs.out; omega)).then_new (chg_set W9 bE 0 _) (fun x e => by have e : x = bE := e; have := HBs.out; omega)
   refine ⟨_, res_get (by kernel_rfl) (by kernel_rfl) hF9 zFd_size hE9, ?_⟩
   rcases HRs.out with ⟨h1, h2⟩ | ⟨h1, h2, h3⟩ | ⟨h1, h2, A, c, h3, _⟩
   ·injection h2 with h2 h3
    subst h3
    exact .inl ⟨h1, rfl, hG9⟩
   ·injection h3 with h3 h4
    subst h4
    exact .inr (.inl ⟨h1, by have := HHd.out; omega, rfl, hG9⟩)
   ·injection h3 with h3 h4
    exact absurd h4 HY.out
  ·subst hy
   obtain ⟨hup, hhl, Ah, ch, rfl, hch1, hch2, hRh, hl64⟩ : D.up = true ∧ hd < D.sec.length ∧ ∃ A c, y1 = .slice A 64 c ∧ 64 ≤ c ∧ c ≤ maxLen ∧ Rd v A (D.at_ hd) ∧ (D.at_ hd).length = 64 := by
    rcases HRs.out with ⟨h1, h2⟩ | ⟨h1, h2, h3⟩ | ⟨h1, h2, A, c, h3, h4⟩
    ·injection h2 with h2 h3; cases h3
    ·injection h3 with h3 h4; cases h4
    ·injection h3 with h3 h5
     exact ⟨h1, h2, A, c, h3, h4⟩
   have HHead := Lh (And.intro hhl (And.intro hch1 (And.intro hch2 (And.intro hRh hl64))))
   have HUp := Lh hup
   have hSec := Lh (fun W => sectors_ok p W)
   clear hg hrs HRs hhl hch1 hch2 hRh hl64 hup e0 ef hbb HS HDm HRd d0
   go_wp2_with fail
   refine (hSec.out _).mono ?_
   rintro e u ⟨rfl, rfl⟩
   go_wp2_with fail
   obtain ⟨W2, hW2⟩ : ∃ W2, (v.alloc (.cells #[.slice none 0 0] 29)).alloc (.cells #[.int .i64 (p : Int)] 82) = W2 := ⟨_, rfl⟩
   have k0 := al_2_0 v (.cells #[.slice none 0 0] 29) (.cells #[.int .i64 (p : Int)] 82)
   have k1 := al_2_1 v (.cells #[.slice none 0 0] 29) (.cells #[.int .i64 (p : Int)] 82)
   have hgv2 : Chg Non v ((v.alloc (.cells #[.slice none 0 0] 29)).alloc (.cells #[.int .i64 (p : Int)] 82)) := ((Chg.refl Non v).alloc _).alloc _
   have hsz : ((v.alloc (.cells #[.slice none 0 0] 29)).alloc (.cells #[.int .i64 (p : Int)] 82)).heap.size = v.heap.size + 1 + 1 := by simp
   rw [hW2] at k0 k1 hgv2 hsz ⊢
   clear hW2
   obtain ⟨b8, hb8⟩ : ∃ b, v.heap.size = b := ⟨_, rfl⟩
   obtain ⟨bx, hbx⟩ : ∃ b, b8 + 1 = b := ⟨_, rfl⟩
   rw [hb8] at k0 k1 hsz hlE ⊢
   rw [hbx] at k1 hsz ⊢
   have hwb := HBs.out
   have HG2 := Lh (HGv.out.then_non hgv2)
   have HRh2 := Lh (HHead.out.2.2.2.1.non hgv2)
   have hgt : GtI pd b0 bF bE b8 W2.heap.size (secB D p []) W2 := ⟨blk_keep KD.out hgv2 (fun e => e), blk_keep KF.out hgv2 (fun e => e), blk_keep KE.out hgv2 (fun e => e), _, k0, World.ownsRow_nil _ _ _ _⟩
   have hbl : Below w.heap.size w W2 := HG2.out.below_non
   have hss := sec_stops 2 (by omega) bx p hp2 W2 (blk_cell k1 0 rfl)
   rw [HHd.out] at hss
   have hL : W2.heap.size = bx + 1 := hsz
   clear k0 k1 hgv2 KE KF KD
   refine (wpIn_wide (n := 3)).1 (wpIn_rangeFunc_ownH hro (by omega) (gf := 79) (lb := #[.pointer (some ⟨bx, 0, none⟩)]) rfl trivial (enters_of Tryz.func79 (by kernel_rfl) rfl)
     hss KX.trans (fun W l o o' _ h1 h2 _ => KX.put W l o o' h1 h2) (Below.refl _ _) (fun _ => rfl)
     (fun pre W => (GtI pd b0 bF bE b8 W2.heap.size (secB D p pre) W ∧ ∀ k ∈ pre, 132 + 96 * p + k.val < D.sec.length) ∧ (Below w.heap.size w W ∧ Below b8 W2 W))
     (fun cd pre W => ((cd = .ret ∧ D.sec.length ≤ 226 + 96 * p) ∧ (W.heap[bF]? = some (.cells zFd 80 (0, 0)) ∧ Boxed W bE 34 (.int .i64 61))) ∧ Below w.heap.size w W)
     (OwnFrom.and (OwnFrom.and (Own.from (gtI_own pd b0 bF bE b8 _ (fun pre => secB D p pre)) _) (ownFrom_pure _ _)) (OwnFrom.and (ownFrom_below (Nat.le_refl _) (by omega)) (ownFrom_below (by omega) (by omega))))
     (fun cd => OwnFrom.and (OwnFrom.and (ownFrom_pure _ _) (OwnFrom.and (Own.from (fun s X Y row hs hg hrow => own_blk bF _ _ _ () X Y row hs hg hrow) _) (Own.from (boxed_own _ _ (fun _ => .int .i64 61)) _))) (ownFrom_below (Nat.le_refl _) (by omega)))
     ⟨⟨hgt, fun k hk => by cases hk⟩, hbl, Below.refl _ _⟩
     (fun x a' W => a' = { tmps := #[.pointer (some ⟨pd, 0, none⟩), .int .i64 (p : Int), .pointer (some ⟨b0, 0, none⟩), undef, .pointer (some ⟨bF, 0, none⟩), .pointer (some ⟨bE, 0, none⟩), .slice Ah 64 ch, .int .i64 0, .pointer (some ⟨b8, 0, none⟩), .int .i64 ((hd : Int) + 1 + (x.val : Int)), undef, undef, undef, undef, undef, .tuple #[.slice Ah 64 ch, .int .i64 0], .pointer (some ⟨pd, 0, none⟩), .int .i64 (p : Int), .int .i64 (hd : Int), .tuple #[.slice Ah 64 ch, .int .i64 0], .slice Ah 64 ch, .int .i64 0, .int .i64 0, .bool false, undef, undef, .int .i64 (p : Int), .func (.func 79) #[] #[.pointer (some ⟨bx, 0, none⟩)], .int .i64 ((hd : Int) + 1 + (x.val : Int)), .int .i64 ((x.val : Int) * 64), undef, undef, undef, undef, undef, undef, undef, undef, undef, undef, undef, undef, undef, undef, undef, undef, undef, undef, undef, undef, undef, undef, undef, undef, undef, undef, undef, undef, undef, undef, undef, undef, undef, undef, undef, undef, undef, undef, undef, undef, undef, undef, undef, undef, undef, undef, undef, undef, undef, undef, undef, undef], defers := [] })
     (fun x a' _ X Y row hs hg hrw => hs)
     ?assign ?body ?done ?stop)
   case assign =>
    rintro l pre x W K ⟨⟨hgt, hps⟩, hbl⟩ hK
    have H := Lh (hK _ _ (keepsFrom_non _ (Chg.refl Non W)) (KX.refl _) ⟨⟨hgt, hps⟩, hbl⟩ rfl)
    clear hgt hps hbl hK
    dsimp only [secE] at H ⊢
    gi_wp2
    exact H.out
   case body =>
    rintro l pre x a' W hl ⟨r, hr⟩ ⟨⟨hgt, hps⟩, hbl⟩ rfl hlt
    have hWW : W2.heap.size ≤ W.heap.size := Nat.le_of_lt (Nat.lt_of_le_of_lt hl (Array.getElem?_eq_some_iff.1 hr).1)
    have HGt := Lh hgt
    have HPs := Lh (And.intro hps hbl)
    have hcw : Chg Non w W := Chg.of_below hbl.1 (Nat.le_refl _)
    have hsW := hbl.1.size
    have e0 := blk_cell hgt.d 0 (v := .pointer (some ⟨pd, 0, none⟩)) rfl
    have hlD := blk_lt hgt.d
    have HRx := Lh (Read_all pd ps pm D (hd + 1 + x.val) W (HD.out.non hcw))
    have hcast : (((hd + 1 + x.val : Nat)) : Int) = (hd : Int) + 1 + (x.val : Int) := by omega
    rw [hcast] at HRx
    clear hgt hps hbl hcw hcast hr
    gi_wp2_with fail
    refine ⟨trivial, (CallsIn.inRound l (callsIn_wide.2 HRx.out)).mono ?_⟩
    rintro e u ⟨⟨y1, y2⟩, rfl, hg, hrs⟩
    have HGu := Lh hg
    have HRs := Lh hrs
    have hEu := blk_keep HGt.out.e hg (fun e => e)
    have hFu := blk_keep HGt.out.f hg (fun e => e)
    have HKp := Lh (And.intro hEu hFu)
    have e1 := blk_cell hEu 0 (v := .int .i64 0) rfl
    have f1 := blk_free hEu 0
    have hbl2 : Below w.heap.size w u := HPs.out.2.1.trans (hg.below_non.mono HPs.out.2.1.size)
    have HBl2 := Lh hbl2
    clear hg hrs hEu hFu hbl2 HRx e0
    simp only
    by_cases hy : y2 = 0
    case neg =>
     have hyd : (y2 != 0) = true := by simpa using hy
     have HY := Lh hy
     clear hy
     gi_wp2_with (first
       | (refine selIn (some 38) (.build 80 _) ?_; refine wpListIn_valA rfl 80 _ rfl (some 38) (.agg zFd) rfl (by kernel_rfl) ?_)
       | (refine selIn none (.store 80 (.tmp 4) (.tmp 38)) ?_
          refine wpListIn_rowA rfl 80 (.tmp 4) (.tmp 38) rfl bF zFd rfl rfl 80 zFd HKp.out.2 (by rw [zFd_size]; exact info_fd) rfl zFd_one ?_
          intro W9 hgW9 hbW9
          have hne : bE ≠ bF := by have := HBs.out; omega
          have e9 := blk_cell (blk_keep HKp.out.1 hgW9 hne) 0 (v := .int .i64 0) rfl
          have f9 := blk_free (blk_keep HKp.out.1 hgW9 hne) 0))
     have hne : bE ≠ bF := by have := HBs.out; omega
     have hEF : bF < W2.heap.size ∧ bE < W2.heap.size := by omega
     have hE9 := blk_set 0 (.int .i64 y2) (blk_keep HKp.out.1 hgW9 hne)
     have hF9 : (W9.setCell ⟨bE, 0, none⟩ (.int .i64 y2)).heap[bF]? = some (.cells zFd 80 (0, 0)) := blk_keep hbW9 (chg_set W9 bE 0 _) (fun e => hne e.symm)
     have hk1 : KeepsFrom W2.heap.size W (W9.setCell ⟨bE, 0, none⟩ (.int .i64 y2)) := ((keepsFrom_non _ HGu.out).trans (keepsFrom_lt hgW9 (fun k e => by have e : k = bF := e; omega))).trans ((KeepsOthers.setCell _ _ _).from _)
     have hlw : w.heap.size ≤ bF ∧ w.heap.size ≤ bE := by have := HBs.out; omega
     have hb9 : Below w.heap.size w (W9.setCell ⟨bE, 0, none⟩ (.int .i64 y2)) := (HBl2.out.trans (hgW9.below (fun k e => by have e : k = bF := e; omega) HBl2.out.size)).setCell (p := ⟨bE, 0, none⟩) hlw.2 _
     have hres : y2 = 61 ∧ D.sec.length ≤ hd + 1 + x.val := by
      rcases HRs.out with ⟨h1, h2⟩ | ⟨h1, h2, h3⟩ | ⟨h1, h2, A, c, h3, _⟩
      ·rw [HUp.out] at h1; cases h1
      ·injection h3 with h3 h4
       exact ⟨h4, h2⟩
      ·injection h3 with h3 h4
       exact absurd h4 HY.out
     obtain ⟨rfl, hle⟩ := hres
     exact ⟨hk1, ⟨⟨rfl, by have := HHd.out; have := x.isLt; omega⟩, hF9, hE9⟩, hb9⟩
    ·subst hy
     obtain ⟨hlt2, A', c', rfl, h64, hcm, hrd, hl64⟩ : hd + 1 + x.val < D.sec.length ∧ ∃ A c, y1 = .slice A 64 c ∧ 64 ≤ c ∧ c ≤ maxLen ∧ Rd u A (D.at_ (hd + 1 + x.val)) ∧ (D.at_ (hd + 1 + x.val)).length = 64 := by
      rcases HRs.out with ⟨h1, h2⟩ | ⟨h1, h2, h3⟩ | ⟨h1, h2, A, c, h3, h4⟩
      ·injection h2 with h2 h3; cases h3
      ·injection h3 with h3 h4; cases h4
      ·injection h3 with h3 h5
       exact ⟨h2, A, c, h3, h4⟩
     obtain ⟨v8, h8, ho8⟩ := HGt.out.a
     have HK8 := Lh (blk_keep h8 HGu.out (fun e => e))
     have HO8 := Lh (own_chg ho8 HGu.out)
     have c8 := blk_cell HK8.out 0 (v := v8) rfl
     have f8 := blk_free HK8.out 0
     have hl8 := blk_lt HK8.out
     obtain ⟨b', o', rfl, _, hcell⟩ := hrd.at_ (by omega)
     have HCl := Lh (news_of hcell)
     have hsl : (secB D p pre).length = 64 * pre.length := secB_len HD.out.1 p pre HPs.out.1
     have hbw : W2.heap.size ≤ u.heap.size := Nat.le_trans hWW HGu.out.size
     have HL2 := Lh hlt2
     have HI0 := Lh (info_parts info_u8)
     clear h8 ho8 hrd hcell hlt2 e1 f1 HRs
     obtain ⟨i0, hi0, hz0, hs0, hi1⟩ := HI0.out
     have HI1 := Lh (And.intro hi0 (And.intro hz0 (And.intro hs0 hi1)))
     clear HI0 hi0 hz0 hs0 hi1
     gi_wp2_with
      (refine wpListIn_append_own _ rfl (.tmp 40) (.tmp 41) 29 rfl W2.heap.size 5 i0 _ 1 1 Tryz.underlying29 HI1.out.1 HI1.out.2.1 HI1.out.2.2.1 HI1.out.2.2.2 rfl (by omega) v8 (secB D p pre).length ((secB D p pre).map bv) rfl HO8.out ⟨b', o', none⟩ 64 c' ((D.at_ (hd + 1 + x.val)).map bv) rfl (by simp [hl64]) HCl.out (bv_one _) (by unfold maxLen; omega) (by omega) hbw ?_
       intro v9 W9 hO9 hG9 hnil
       have hv8 : v8.ownBlock ≠ some b8 := fun e => by have := (HO8.out.lt b8 e).1; omega
       have hK9 : W9.heap[b8]? = some (.cells #[v8] 29 (0, 0)) := (hG9.block b8 hl8 (fun e => hv8 e.symm)).trans HK8.out
       have hsb : secB D p (pre ++ [x]) = secB D p pre ++ D.at_ (hd + 1 + x.val) := by
         rw [secB_snoc]
         have := HHd.out
         rw [show 132 + 96 * p + x.val = hd + 1 + x.val by omega]
       have hO9 : W9.ownsRow W2.heap.size 5 1 v9 (secB D p (pre ++ [x])).length ((secB D p (pre ++ [x])).map bv) := by
         rw [hsb, List.length_append, List.map_append, hl64]
         exact hO9
       have ho9' := own_reads hO9
       obtain ⟨A9, d9, rfl, hr9⟩ := ho9'
       obtain ⟨b9, o9, rfl, _, _⟩ := hr9.at_ (by rw [hsb, List.length_append]; omega)
       clear hr9
       have c9 := blk_cell hK9 0 (v := v8) rfl
       have f9 := blk_free hK9 0
       have HO9 := Lh (And.intro hO9 (And.intro hG9 hK9))
       clear hO9 hG9 hnil hv8 hK9 hsb)
     obtain ⟨hO9, hG9, hK9⟩ := HO9.out
     have hg9 : Chg (fun k => W2.heap.size ≤ k) u W9 := (Chg.refl _ u).grown hG9 (fun g e => .inl (HO8.out.lt g e).1)
     have hwb := HBs.out
     have hs9 := chg_set W9 b8 0 (.slice (some ⟨b9, o9, none⟩) (secB D p (pre ++ [x])).length d9)
     have hk : KeepsFrom W2.heap.size W (W9.setCell ⟨b8, 0, none⟩ (.slice (some ⟨b9, o9, none⟩) (secB D p (pre ++ [x])).length d9)) :=
      ((keepsFrom_non _ HGu.out).trans ((KeepsOthers.of_grownBy hG9 (fun j o e ho => by
        rcases HO8.out.2 with ⟨e2, _⟩ | ⟨g2, cap2, cur2, e2, _, hg2, _⟩
        · rw [e2] at e; simp [Value.ownBlock] at e
        · rw [e2] at e
          simp [Value.ownBlock] at e
          subst e
          rw [hg2] at ho
          injection ho with ho
          subst ho
          rfl)).from _)).trans ((KeepsOthers.setCell _ _ _).from _)
     have hkx : KX bx W (W9.setCell ⟨b8, 0, none⟩ (.slice (some ⟨b9, o9, none⟩) (secB D p (pre ++ [x])).length d9)) :=
      ((KX.of_chg HGu.out (fun e => e)).trans (KX.of_chg hg9 (fun e => by have e : W2.heap.size ≤ bx := e; omega))).trans (KX.of_chg hs9 (fun e => by have e : bx = b8 := e; omega))
     have hkeep : ∀ (c : Nat) (cs : Array Value) (t : TypeId), W.heap[c]? = some (.cells cs t (0, 0)) → c < b8 → (W9.setCell ⟨b8, 0, none⟩ (.slice (some ⟨b9, o9, none⟩) (secB D p (pre ++ [x])).length d9)).heap[c]? = some (.cells cs t (0, 0)) := fun c cs t hc hlt =>
      blk_keep (blk_keep (blk_keep hc HGu.out (fun e => e)) hg9 (fun e => by have e : W2.heap.size ≤ c := e; omega)) hs9 (fun e => by have e : c = b8 := e; omega)
     refine ⟨hk, hkx, ⟨⟨hkeep _ _ _ HGt.out.d (by omega), hkeep _ _ _ HGt.out.f (by omega), hkeep _ _ _ HGt.out.e (by omega), _, blk_set 0 _ hK9, ownsRow_setCell_below hO9 (a := ⟨b8, 0, none⟩) (by show b8 < _; omega) _⟩, ?_⟩, ?_, ((HPs.out.2.2.trans (HGu.out.below_non.mono (by omega))).trans (hg9.below (fun k e => by have e : W2.heap.size ≤ k := e; omega) (by omega))).setCell (p := ⟨b8, 0, none⟩) (Nat.le_refl _) _⟩
     ·intro k hk2
      rcases List.mem_append.1 hk2 with h | h
      ·exact HPs.out.1 k h
      ·obtain rfl := List.mem_singleton.1 h
       have := HHd.out
       have := HL2.out
       omega
     ·exact (HBl2.out.trans (hg9.below (fun k e => by have e : W2.heap.size ≤ k := e; have := HPs.out.2.1.size; omega) HBl2.out.size)).setCell (p := ⟨b8, 0, none⟩) (by show w.heap.size ≤ b8; omega) _
   case done =>
    rintro Dd zs W hD rfl ⟨⟨hgt, hps⟩, hbl, hb2⟩ hK
    have hlen : 226 + 96 * p < D.sec.length := by
     have := hps ⟨94, by omega⟩ last_in
     simp only at this
     omega
    have hal : (kAll D p).length = 6080 := by rw [← secB_all, secB_len HD.out.1 p _ hps, finTo_len 95 (Nat.le_refl _)]
    rw [secB_all] at hgt
    obtain ⟨v8, h8, ho8⟩ := hgt.a
    obtain ⟨A9, d9, e9, hr9⟩ := own_reads ho8
    obtain ⟨g9, c9, rfl, hc9, hm9⟩ : ∃ g c, v8 = .slice (some ⟨g, 0, none⟩) 6080 c ∧ 6080 ≤ c ∧ c ≤ maxLen := by
     rcases ho8.2 with ⟨_, h0⟩ | ⟨g, cap, cur, e2, _, _, h1, h2, _⟩
     ·rw [hal] at h0; cases h0
     ·rw [hal] at e2 h1
      exact ⟨g, cap, e2, h1, h2⟩
    injection e9 with e9 e9n e9c
    subst e9
    subst e9c
    clear e9n
    have hch : Chg (fun k => b8 ≤ k) W2 W := ⟨hb2.os, hb2.tape, hb2.output, hb2.size, fun i hi hn => hb2.block i (by omega)⟩
    have hRW : Rd W Ah (D.at_ hd) := HRh2.out.keep hch (fun b o e _ he => by
      obtain ⟨b', o', e', hlt, _⟩ := HHead.out.2.2.2.1.at_ (by rw [HHead.out.2.2.2.2]; omega)
      rw [e] at e'
      injection e' with e'
      injection e' with e'
      have he : b8 ≤ b := he
      omega)
    have hGW : Chg Non w W := Chg.of_below hbl (Nat.le_refl _)
    have HT := Lh (tiRead_any Ah (D.at_ hd) ch W hRW HHead.out.2.2.2.2 HHead.out.2.1 HHead.out.2.2.1)
    have HTh := Lh (tiRd_facts (D.at_ hd))
    have HAt : Hid (kAt D p = if (tiRd (D.at_ hd)).2 = true ∧ (tiRd (D.at_ hd)).1.n % 2 = (p : Int) ∧ crcSum ((kAll D p).take (tiRd (D.at_ hd)).1.size.toNat) = (tiRd (D.at_ hd)).1.sum then (parseS ((kAll D p).take (tiRd (D.at_ hd)).1.size.toNat)).map (fun s => ((tiRd (D.at_ hd)).1.n, (tiRd (D.at_ hd)).1.hash, s)) else none) := Lh (by rw [← HHd.out]; rfl)
    obtain ⟨⟨⟨n, size, hash, sum⟩, ok⟩, hti⟩ : ∃ y, tiRd (D.at_ hd) = y := ⟨_, rfl⟩
    rw [hti] at HT HTh HAt
    simp only [HHead.out.2.2.2.2] at HT HTh HAt
    have HFin := Lh (And.intro hgt.f (And.intro hgt.e (And.intro h8 (And.intro hr9 (And.intro hK hGW)))))
    have HNum := Lh (And.intro hlen (And.intro hal (And.intro hc9 hm9)))
    have hDb : bx + 1 ≤ Dd := by omega
    have HTs := Lh (tiA_size n size sum HTh.out.1)
    have HWs := Lh (show W2.heap.size ≤ W.heap.size from hb2.size)
    have HDl := Lh (Array.getElem?_eq_some_iff.1 hK).1
    clear hgt hps hbl hb2 hK hlen hal h8 ho8 hr9 hch hRW hGW hti hc9 hm9 hss
    go_wp2_with fail
    refine HT.out.mono ?_
    rintro e u1 ⟨rfl, hg1⟩
    obtain ⟨b12, hb12⟩ : ∃ b, u1.heap.size = b := ⟨_, rfl⟩
    have HG1 := Lh hg1
    clear hg1
    have hz12 : ∀ o, (u1.alloc o).heap[b12]? = some o := fun o => by rw [← hb12]; exact heap_alloc_new _ _
    go_wp2_with
     (refine sel none (.store 78 (.tmp 12) (.tmp 46)) ?_
      refine wpList_store_rowA rfl 78 (.tmp 12) (.tmp 46) rfl b12 (tiA n size hash sum) rfl rfl 78 _ (hz12 _) (by rw [HTs.out]; exact info_ti) (by rw [HTs.out]; rfl) (tiA_one _ _ _ _) ?_
      intro W3 hgW3 hbW3
      have HW3 := Lh (And.intro hgW3 hbW3)
      clear hgW3 hbW3)
    have hg13 : Chg Non W W3 := (HG1.out.alloc _).then_new HW3.out.1 (fun x e => by have e : x = b12 := e; have := HG1.out.size; omega)
    have hDb12 : Dd < b12 := by have := HG1.out.size; have := HDl.out; omega
    have HD3 : Hid (GtD w bF bE b8 b12 Dd g9 c9 (kAll D p) (tiA n size hash sum) W3) := Lh (by
      obtain ⟨h1, h2, h3, h4, h5, h6⟩ := HFin.out
      exact ⟨blk_keep h1 hg13 (fun e => e), blk_keep h2 hg13 (fun e => e), blk_keep h3 hg13 (fun e => e), HW3.out.2, h4.non hg13, blk_keep h5 hg13 (fun e => e), h6.then_non hg13⟩)
    clear hg13 hz12 hb12
    clear HW3 HG1 HFin HT
    obtain ⟨V2, hV2⟩ : ∃ V2, V2 = W3.drew := ⟨_, rfl⟩
    have HD4 : Hid (GtD w bF bE b8 b12 Dd g9 c9 (kAll D p) (tiA n size hash sum) V2) := Lh (by rw [hV2]; exact HD3.out.non ((Chg.refl Non W3).drew))
    clear HD3
    have c0 := blk_cell HD4.out.t 0 (tiA_0 n size hash sum)
    have c1 := blk_cell HD4.out.t 1 (tiA_1 n size hash sum)
    have c34 := blk_cell HD4.out.t 34 (tiA_34 n size sum HTh.out.1)
    have a8 := blk_cell HD4.out.a 0 (v := .slice (some ⟨g9, 0, none⟩) 6080 c9) rfl
    have HOf := Lh (fun W => of_ok n W)
    cases ok with
    | false =>
     have HNo : Hid (kAt D p = none) := Lh (by rw [HAt.out, if_neg (by simp)])
     apply wp_cutB (α := Unit) (f := fun _ x => ((((((x.put (some 48) (.bool false)).put (some 49) (.bool true)).put (some 50) (.bool true)).put (some 56) (.bool true)).put (some 57) (.bool true)).put (some 66) (.bool true))) (R := fun _ v => Chg Non V2 v)
     ·refine wp_region_held_drew (S := Chg Non V2) (by kernel_rfl) (by rw [hV2]; exact Chg.refl _ _) (fun hHeld => ?_)
      clear hHeld
      rw [← hV2]
      clear hV2
      have HS : Hid (Chg Non V2 V2) := Lh (Chg.refl _ _)
      refine hp 0 48 (.bool false) rfl HS.out ?_ (hQ := fun _ _ _ h => absurd h.1 (by simp))
      refine hp 1 49 (.bool true) rfl HS.out ?_ (hQ := fun _ _ _ h => absurd h.1 (by simp))
      refine hp 2 50 (.bool true) rfl HS.out ?_ (hQ := fun _ _ _ h => absurd h.1 (by simp))
      refine hs 3 51 rfl HS.out ?_ (hQ := fun _ _ _ h => absurd h.1 (by simp))
      refine hs 4 52 rfl HS.out ?_ (hQ := fun _ _ _ h => absurd h.1 (by simp))
      refine hs 5 53 rfl HS.out ?_ (hQ := fun _ _ _ h => absurd h.1 (by simp))
      refine hs 6 54 rfl HS.out ?_ (hQ := fun _ _ _ h => absurd h.1 (by simp))
      refine hs 7 55 rfl HS.out ?_ (hQ := fun _ _ _ h => absurd h.1 (by simp))
      refine hp 8 56 (.bool true) rfl HS.out ?_ (hQ := fun _ _ _ h => absurd h.1 (by simp))
      refine hp 9 57 (.bool true) rfl HS.out ?_ (hQ := fun _ _ _ h => absurd h.1 (by simp))
      refine hs 10 58 rfl HS.out ?_ (hQ := fun _ _ _ h => absurd h.1 (by simp))
      refine hs 11 59 rfl HS.out ?_ (hQ := fun _ _ _ h => absurd h.1 (by simp))
      refine hs 12 60 rfl HS.out ?_ (hQ := fun _ _ _ h => absurd h.1 (by simp))
      refine hs 13 61 rfl HS.out ?_ (hQ := fun _ _ _ h => absurd h.1 (by simp))
      refine hs 14 62 rfl HS.out ?_ (hQ := fun _ _ _ h => absurd h.1 (by simp))
      refine hs 15 63 rfl HS.out ?_ (hQ := fun _ _ _ h => absurd h.1 (by simp))
      refine hs 16 64 rfl HS.out ?_ (hQ := fun _ _ _ h => absurd h.1 (by simp))
      refine hs 17 65 rfl HS.out ?_ (hQ := fun _ _ _ h => absurd h.1 (by simp))
      refine hp 18 66 (.bool true) rfl HS.out ?_ (hQ := fun _ _ _ h => absurd h.1 (by simp))
      refine hdn ?_ _
      exact ⟨rfl, (), by kernel_rfl, HS.out⟩
     ·clear hV2
      rintro _ v2 hg
      have HE := Lh (HD4.out.non hg)
      clear hg HD4 c0 c1 c34 a8
      simp only [Act.put, sA, sB, sC]
      have e9 := blk_cell HE.out.e 0 (v := .int .i64 0) rfl
      have f9 := blk_free HE.out.e 0
      have hlE9 := blk_lt HE.out.e
      go_wp2_with (first
        | (refine sel (some 67) (.build 80 _) ?_; refine wpList_valA rfl (some 67) (.agg zFd) rfl (by kernel_rfl) ?_)
        | (refine sel none (.store 80 (.tmp 4) (.tmp 67)) ?_
           refine wpList_store_rowA rfl 80 (.tmp 4) (.tmp 67) rfl bF zFd rfl rfl 80 zFd HE.out.f (by rw [zFd_size]; exact info_fd) rfl zFd_one ?_
           intro W9 hgW9 hbW9
           have hne : bE ≠ bF := by have := HBs.out; omega
           have e9 := blk_cell (blk_keep HE.out.e hgW9 hne) 0 (v := .int .i64 0) rfl
           have f9 := blk_free (blk_keep HE.out.e hgW9 hne) 0))
      have hne : bE ≠ bF := by have := HBs.out; omega
      have hE9 := blk_set 0 (.int .i64 0) (blk_keep HE.out.e hgW9 hne)
      have hF9 : (W9.setCell ⟨bE, 0, none⟩ (.int .i64 0)).heap[bF]? = some (.cells zFd 80 (0, 0)) := blk_keep hbW9 (chg_set W9 bE 0 _) (fun e => hne e.symm)
      have hk9 : (W9.setCell ⟨bE, 0, none⟩ (.int .i64 0)).heap[Dd]? = some (.deferred (some [])) := blk_keep (blk_keep HE.out.k hgW9 (fun e => by have e : Dd = bF := e; have := HBs.out; omega)) (chg_set W9 bE 0 _) (fun e => by have e : Dd = bE := e; have := HBs.out; omega)
      have hG9 : Chg Non w (W9.setCell ⟨bE, 0, none⟩ (.int .i64 0)) := (HE.out.g.then_new hgW9 (fun x e => by have e : x = bF := e; have := HBs.out; omega)).then_new (chg_set W9 bE 0 _) (fun x e => by have e : x = bE := e; have := HBs.out; omega)
      refine ⟨by simp, .inl ⟨_, _, rfl, run_takeDeferred hk9, ?_⟩⟩
      have hfd : bF ≠ Dd ∧ bE ≠ Dd := by have := HBs.out; omega
      exact ⟨_, res_get (by kernel_rfl) (by kernel_rfl) (put_keep _ hF9 hfd.1) zFd_size (put_keep _ hE9 hfd.2), .inr (.inr (.inl ⟨HUp.out, HNum.out.1, HNo.out, rfl, put_chg _ hG9 (by have := HBs.out; omega)⟩))⟩
    | true =>
     obtain ⟨hn1, hs1, hs2⟩ := HTh.out.2 rfl
     have htm : n.tmod 2 = n % 2 := Int.tmod_eq_emod_of_nonneg (by omega)
     obtain ⟨sz, rfl⟩ : ∃ sz : Nat, size = (sz : Int) := ⟨size.toNat, by omega⟩
     have hszc : sz ≤ 6080 := by omega
     by_cases hnp : n % 2 = (p : Int)
     case neg =>
      have HNo : Hid (kAt D p = none) := Lh (by rw [HAt.out, if_neg (by simp [hnp])])
      have hnpd : (n.tmod 2 != (p : Int)) = true := by rw [htm]; simpa using hnp
      apply wp_cutB (α := Unit) (f := fun _ x => (((((((((((x.put (some 48) (.bool true)).put (some 49) (.bool false)).put (some 50) (.bool false)).put (some 51) (.pointer (some ⟨b12, 0, none⟩))).put (some 52) (.int .i64 n)).put (some 54) (.int .i64 (p : Int))).put (some 53) (.int .i64 (n.tmod 2))).put (some 55) (.bool true)).put (some 56) (.bool true)).put (some 57) (.bool true)).put (some 66) (.bool true))) (R := fun _ v => Chg Non V2 v)
      ·refine wp_region_held_drew (S := Chg Non V2) (by kernel_rfl) (by rw [hV2]; exact Chg.refl _ _) (fun hHeld => ?_)
       clear hHeld
       rw [← hV2]
       clear hV2
       have HS : Hid (Chg Non V2 V2) := Lh (Chg.refl _ _)
       refine hp 0 48 (.bool true) rfl HS.out ?_ (hQ := fun _ _ _ h => absurd h.1 (by simp))
       refine hp 1 49 (.bool false) rfl HS.out ?_ (hQ := fun _ _ _ h => absurd h.1 (by simp))
       refine hp 2 50 (.bool false) rfl HS.out ?_ (hQ := fun _ _ _ h => absurd h.1 (by simp))
       refine hp 3 51 (.pointer (some ⟨b12, 0, none⟩)) rfl HS.out ?_ (hQ := fun _ _ _ h => absurd h.1 (by simp))
       refine hp 4 52 (.int .i64 n) rfl HS.out ?_ (hQ := fun _ _ _ h => absurd h.1 (by simp)) (he := (fun W hW => by have hc := hW.cell_some c0 (fun e => e); go_simp))
       refine hp 6 54 (.int .i64 (p : Int)) rfl HS.out ?_ (hQ := fun _ _ _ h => absurd h.1 (by simp))
       refine h1o 5 rfl ?_
       intro K hK
       go_simp
       refine (HOf.out V2).mono ?_
       rintro e u0 ⟨rfl, rfl⟩
       refine hK.out _ _ HS.out (fun _ => ?_)
       clear hK K
       try simp only [Act.put, sA, sB, sC]
       refine hp 7 55 (.bool true) rfl HS.out ?_ (hQ := fun _ _ _ h => absurd h.1 (by simp))
       refine hp 8 56 (.bool true) rfl HS.out ?_ (hQ := fun _ _ _ h => absurd h.1 (by simp))
       refine hp 9 57 (.bool true) rfl HS.out ?_ (hQ := fun _ _ _ h => absurd h.1 (by simp))
       refine hs 10 58 rfl HS.out ?_ (hQ := fun _ _ _ h => absurd h.1 (by simp))
       refine hs 11 59 rfl HS.out ?_ (hQ := fun _ _ _ h => absurd h.1 (by simp))
       refine hs 12 60 rfl HS.out ?_ (hQ := fun _ _ _ h => absurd h.1 (by simp))
       refine hs 13 61 rfl HS.out ?_ (hQ := fun _ _ _ h => absurd h.1 (by simp))
       refine hs 14 62 rfl HS.out ?_ (hQ := fun _ _ _ h => absurd h.1 (by simp))
       refine hs 15 63 rfl HS.out ?_ (hQ := fun _ _ _ h => absurd h.1 (by simp))
       refine hs 16 64 rfl HS.out ?_ (hQ := fun _ _ _ h => absurd h.1 (by simp))
       refine hs 17 65 rfl HS.out ?_ (hQ := fun _ _ _ h => absurd h.1 (by simp))
       refine hp 18 66 (.bool true) rfl HS.out ?_ (hQ := fun _ _ _ h => absurd h.1 (by simp))
       refine hdn ?_ _
       exact ⟨rfl, (), by kernel_rfl, HS.out⟩
      ·clear hV2
       rintro _ v2 hg
       have HE := Lh (HD4.out.non hg)
       clear hg HD4 c0 c1 c34 a8
       simp only [Act.put, sA, sB, sC]
       have e9 := blk_cell HE.out.e 0 (v := .int .i64 0) rfl
       have f9 := blk_free HE.out.e 0
       have hlE9 := blk_lt HE.out.e
       go_wp2_with (first
         | (refine sel (some 67) (.build 80 _) ?_; refine wpList_valA rfl (some 67) (.agg zFd) rfl (by kernel_rfl) ?_)
         | (refine sel none (.store 80 (.tmp 4) (.tmp 67)) ?_
            refine wpList_store_rowA rfl 80 (.tmp 4) (.tmp 67) rfl bF zFd rfl rfl 80 zFd HE.out.f (by rw [zFd_size]; exact info_fd) rfl zFd_one ?_
            intro W9 hgW9 hbW9
            have hne : bE ≠ bF := by have := HBs.out; omega
            have e9 := blk_cell (blk_keep HE.out.e hgW9 hne) 0 (v := .int .i64 0) rfl
            have f9 := blk_free (blk_keep HE.out.e hgW9 hne) 0))
       have hne : bE ≠ bF := by have := HBs.out; omega
       have hE9 := blk_set 0 (.int .i64 0) (blk_keep HE.out.e hgW9 hne)
       have hF9 : (W9.setCell ⟨bE, 0, none⟩ (.int .i64 0)).heap[bF]? = some (.cells zFd 80 (0, 0)) := blk_keep hbW9 (chg_set W9 bE 0 _) (fun e => hne e.symm)
       have hk9 : (W9.setCell ⟨bE, 0, none⟩ (.int .i64 0)).heap[Dd]? = some (.deferred (some [])) := blk_keep (blk_keep HE.out.k hgW9 (fun e => by have e : Dd = bF := e; have := HBs.out; omega)) (chg_set W9 bE 0 _) (fun e => by have e : Dd = bE := e; have := HBs.out; omega)
       have hG9 : Chg Non w (W9.setCell ⟨bE, 0, none⟩ (.int .i64 0)) := (HE.out.g.then_new hgW9 (fun x e => by have e : x = bF := e; have := HBs.out; omega)).then_new (chg_set W9 bE 0 _) (fun x e => by have e : x = bE := e; have := HBs.out; omega)
       refine ⟨by simp, .inl ⟨_, _, rfl, run_takeDeferred hk9, ?_⟩⟩
       have hfd : bF ≠ Dd ∧ bE ≠ Dd := by have := HBs.out; omega
       exact ⟨_, res_get (by kernel_rfl) (by kernel_rfl) (put_keep _ hF9 hfd.1) zFd_size (put_keep _ hE9 hfd.2), .inr (.inr (.inl ⟨HUp.out, HNum.out.1, HNo.out, rfl, put_chg _ hG9 (by have := HBs.out; omega)⟩))⟩
     have hnpd : (n.tmod 2 != (p : Int)) = false := by rw [htm]; simpa using hnp
     have HNp := Lh hnp
     clear hnp htm
     have hsl : ((kAll D p).take sz).length = sz := by rw [List.length_take, HNum.out.2.1]; omega
     have HSum := Lh (Sum_any (some ⟨g9, 0, none⟩) ((kAll D p).take sz) c9 V2 (HD4.out.r.take sz) (by omega))
     rw [hsl] at HSum
     obtain ⟨sm, hsm⟩ : ∃ y, crcSum ((kAll D p).take sz) = y := ⟨_, rfl⟩
     rw [hsm] at HSum
     have hszc9 : sz ≤ c9 := by have := HNum.out.2.2.1; omega
     have hAt : kAt D p = (if n % 2 = (p : Int) ∧ sm = sum then (parseS ((kAll D p).take sz)).map (fun s => (n, hash, s)) else none) := by
      have h := HAt.out
      simp only [Int.toNat_natCast] at h
      rw [hsm] at h
      rw [h]
      by_cases hc : n % 2 = (p : Int) ∧ sm = sum
      ·rw [if_pos hc, if_pos (by simpa using hc)]
      ·rw [if_neg hc, if_neg (by simpa using hc)]
     have HAt2 := Lh hAt
     clear HAt
     have HSl := Lh (And.intro hsm hsl)
     clear hAt hsm hsl
     by_cases hss : sm = sum
     case neg =>
      have HNo : Hid (kAt D p = none) := Lh (by rw [HAt2.out, if_neg (by simp [hss])])
      have hssd : ((sm : Int) != (sum : Int)) = true := by rw [bne_iff_ne]; intro e; exact hss (by omega)
      clear hss
      apply wp_cutB (α := Unit) (f := fun _ x => (((((((((((((((((((x.put (some 48) (.bool true)).put (some 49) (.bool false)).put (some 50) (.bool false)).put (some 51) (.pointer (some ⟨b12, 0, none⟩))).put (some 52) (.int .i64 n)).put (some 54) (.int .i64 (p : Int))).put (some 53) (.int .i64 (n.tmod 2))).put (some 55) (.bool false)).put (some 56) (.bool false)).put (some 57) (.bool false)).put (some 58) (.slice (some ⟨g9, 0, none⟩) 6080 c9)).put (some 59) (.pointer (some ⟨b12, 1, none⟩))).put (some 60) (.int .i64 (sz : Int))).put (some 61) (.slice (some ⟨g9, 0, none⟩) sz c9)).put (some 63) (.pointer (some ⟨b12, 34, none⟩))).put (some 64) (.int .u32 (sum : Int))).put (some 62) (.int .u32 (sm : Int))).put (some 65) (.bool true)).put (some 66) (.bool true))) (R := fun _ v => Chg Non V2 v)
      ·refine wp_region_held_drew (S := Chg Non V2) (by kernel_rfl) (by rw [hV2]; exact Chg.refl _ _) (fun hHeld => ?_)
       clear hHeld
       rw [← hV2]
       clear hV2
       have HS : Hid (Chg Non V2 V2) := Lh (Chg.refl _ _)
       refine hp 0 48 (.bool true) rfl HS.out ?_ (hQ := fun _ _ _ h => absurd h.1 (by simp))
       refine hp 1 49 (.bool false) rfl HS.out ?_ (hQ := fun _ _ _ h => absurd h.1 (by simp))
       refine hp 2 50 (.bool false) rfl HS.out ?_ (hQ := fun _ _ _ h => absurd h.1 (by simp))
       refine hp 3 51 (.pointer (some ⟨b12, 0, none⟩)) rfl HS.out ?_ (hQ := fun _ _ _ h => absurd h.1 (by simp))
       refine hp 4 52 (.int .i64 n) rfl HS.out ?_ (hQ := fun _ _ _ h => absurd h.1 (by simp)) (he := (fun W hW => by have hc := hW.cell_some c0 (fun e => e); go_simp))
       refine hp 6 54 (.int .i64 (p : Int)) rfl HS.out ?_ (hQ := fun _ _ _ h => absurd h.1 (by simp))
       refine h1o 5 rfl ?_
       intro K hK
       go_simp
       refine (HOf.out V2).mono ?_
       rintro e u0 ⟨rfl, rfl⟩
       refine hK.out _ _ HS.out (fun _ => ?_)
       clear hK K
       try simp only [Act.put, sA, sB, sC]
       refine hp 7 55 (.bool false) rfl HS.out ?_ (hQ := fun _ _ _ h => absurd h.1 (by simp))
       refine hp 8 56 (.bool false) rfl HS.out ?_ (hQ := fun _ _ _ h => absurd h.1 (by simp))
       refine hp 9 57 (.bool false) rfl HS.out ?_ (hQ := fun _ _ _ h => absurd h.1 (by simp))
       refine hp 10 58 (.slice (some ⟨g9, 0, none⟩) 6080 c9) rfl HS.out ?_ (hQ := fun _ _ _ h => absurd h.1 (by simp)) (he := (fun W hW => by have hc := hW.cell_some a8 (fun e => e); go_simp))
       refine hp 11 59 (.pointer (some ⟨b12, 1, none⟩)) rfl HS.out ?_ (hQ := fun _ _ _ h => absurd h.1 (by simp))
       refine hp 12 60 (.int .i64 (sz : Int)) rfl HS.out ?_ (hQ := fun _ _ _ h => absurd h.1 (by simp)) (he := (fun W hW => by have hc := hW.cell_some c1 (fun e => e); go_simp))
       refine hp 13 61 (.slice (some ⟨g9, 0, none⟩) sz c9) rfl HS.out ?_ (hQ := fun _ _ _ h => absurd h.1 (by simp))
       refine hp 15 63 (.pointer (some ⟨b12, 34, none⟩)) rfl HS.out ?_ (hQ := fun _ _ _ h => absurd h.1 (by simp))
       refine hp 16 64 (.int .u32 (sum : Int)) rfl HS.out ?_ (hQ := fun _ _ _ h => absurd h.1 (by simp)) (he := (fun W hW => by have hc := hW.cell_some c34 (fun e => e); go_simp))
       refine h1o 14 rfl ?_
       intro K hK
       go_simp
       refine HSum.out.mono ?_
       rintro e u0 ⟨rfl, hg⟩
       have HS := Lh hg
       refine hK.out _ _ HS.out (fun _ => ?_)
       clear hK K hg
       try simp only [Act.put, sA, sB, sC]
       refine hp 17 65 (.bool true) rfl HS.out ?_ (hQ := fun _ _ _ h => absurd h.1 (by simp))
       refine hp 18 66 (.bool true) rfl HS.out ?_ (hQ := fun _ _ _ h => absurd h.1 (by simp))
       refine hdn ?_ _
       exact ⟨rfl, (), by kernel_rfl, HS.out⟩
      ·clear hV2
       rintro _ v2 hg
       have HE := Lh (HD4.out.non hg)
       clear hg HD4 c0 c1 c34 a8
       simp only [Act.put, sA, sB, sC]
       have e9 := blk_cell HE.out.e 0 (v := .int .i64 0) rfl
       have f9 := blk_free HE.out.e 0
       have hlE9 := blk_lt HE.out.e
       go_wp2_with (first
         | (refine sel (some 67) (.build 80 _) ?_; refine wpList_valA rfl (some 67) (.agg zFd) rfl (by kernel_rfl) ?_)
         | (refine sel none (.store 80 (.tmp 4) (.tmp 67)) ?_
            refine wpList_store_rowA rfl 80 (.tmp 4) (.tmp 67) rfl bF zFd rfl rfl 80 zFd HE.out.f (by rw [zFd_size]; exact info_fd) rfl zFd_one ?_
            intro W9 hgW9 hbW9
            have hne : bE ≠ bF := by have := HBs.out; omega
            have e9 := blk_cell (blk_keep HE.out.e hgW9 hne) 0 (v := .int .i64 0) rfl
            have f9 := blk_free (blk_keep HE.out.e hgW9 hne) 0))
       have hne : bE ≠ bF := by have := HBs.out; omega
       have hE9 := blk_set 0 (.int .i64 0) (blk_keep HE.out.e hgW9 hne)
       have hF9 : (W9.setCell ⟨bE, 0, none⟩ (.int .i64 0)).heap[bF]? = some (.cells zFd 80 (0, 0)) := blk_keep hbW9 (chg_set W9 bE 0 _) (fun e => hne e.symm)
       have hk9 : (W9.setCell ⟨bE, 0, none⟩ (.int .i64 0)).heap[Dd]? = some (.deferred (some [])) := blk_keep (blk_keep HE.out.k hgW9 (fun e => by have e : Dd = bF := e; have := HBs.out; omega)) (chg_set W9 bE 0 _) (fun e => by have e : Dd = bE := e; have := HBs.out; omega)
       have hG9 : Chg Non w (W9.setCell ⟨bE, 0, none⟩ (.int .i64 0)) := (HE.out.g.then_new hgW9 (fun x e => by have e : x = bF := e; have := HBs.out; omega)).then_new (chg_set W9 bE 0 _) (fun x e => by have e : x = bE := e; have := HBs.out; omega)
       refine ⟨by simp, .inl ⟨_, _, rfl, run_takeDeferred hk9, ?_⟩⟩
       have hfd : bF ≠ Dd ∧ bE ≠ Dd := by have := HBs.out; omega
       exact ⟨_, res_get (by kernel_rfl) (by kernel_rfl) (put_keep _ hF9 hfd.1) zFd_size (put_keep _ hE9 hfd.2), .inr (.inr (.inl ⟨HUp.out, HNum.out.1, HNo.out, rfl, put_chg _ hG9 (by have := HBs.out; omega)⟩))⟩
     have hssd : ((sm : Int) != (sum : Int)) = false := by rw [bne_eq_false_iff_eq]; omega
     have HSs := Lh hss
     clear hss
     apply wp_cutB (α := Unit) (f := fun _ x => (((((((((((((((((((x.put (some 48) (.bool true)).put (some 49) (.bool false)).put (some 50) (.bool false)).put (some 51) (.pointer (some ⟨b12, 0, none⟩))).put (some 52) (.int .i64 n)).put (some 54) (.int .i64 (p : Int))).put (some 53) (.int .i64 (n.tmod 2))).put (some 55) (.bool false)).put (some 56) (.bool false)).put (some 57) (.bool false)).put (some 58) (.slice (some ⟨g9, 0, none⟩) 6080 c9)).put (some 59) (.pointer (some ⟨b12, 1, none⟩))).put (some 60) (.int .i64 (sz : Int))).put (some 61) (.slice (some ⟨g9, 0, none⟩) sz c9)).put (some 63) (.pointer (some ⟨b12, 34, none⟩))).put (some 64) (.int .u32 (sum : Int))).put (some 62) (.int .u32 (sm : Int))).put (some 65) (.bool false)).put (some 66) (.bool false))) (R := fun _ v => Chg Non V2 v)
     ·refine wp_region_held_drew (S := Chg Non V2) (by kernel_rfl) (by rw [hV2]; exact Chg.refl _ _) (fun hHeld => ?_)
      clear hHeld
      rw [← hV2]
      clear hV2
      have HS : Hid (Chg Non V2 V2) := Lh (Chg.refl _ _)
      refine hp 0 48 (.bool true) rfl HS.out ?_ (hQ := fun _ _ _ h => absurd h.1 (by simp))
      refine hp 1 49 (.bool false) rfl HS.out ?_ (hQ := fun _ _ _ h => absurd h.1 (by simp))
      refine hp 2 50 (.bool false) rfl HS.out ?_ (hQ := fun _ _ _ h => absurd h.1 (by simp))
      refine hp 3 51 (.pointer (some ⟨b12, 0, none⟩)) rfl HS.out ?_ (hQ := fun _ _ _ h => absurd h.1 (by simp))
      refine hp 4 52 (.int .i64 n) rfl HS.out ?_ (hQ := fun _ _ _ h => absurd h.1 (by simp)) (he := (fun W hW => by have hc := hW.cell_some c0 (fun e => e); go_simp))
      refine hp 6 54 (.int .i64 (p : Int)) rfl HS.out ?_ (hQ := fun _ _ _ h => absurd h.1 (by simp))
      refine h1o 5 rfl ?_
      intro K hK
      go_simp
      refine (HOf.out V2).mono ?_
      rintro e u0 ⟨rfl, rfl⟩
      refine hK.out _ _ HS.out (fun _ => ?_)
      clear hK K
      try simp only [Act.put, sA, sB, sC]
      refine hp 7 55 (.bool false) rfl HS.out ?_ (hQ := fun _ _ _ h => absurd h.1 (by simp))
      refine hp 8 56 (.bool false) rfl HS.out ?_ (hQ := fun _ _ _ h => absurd h.1 (by simp))
      refine hp 9 57 (.bool false) rfl HS.out ?_ (hQ := fun _ _ _ h => absurd h.1 (by simp))
      refine hp 10 58 (.slice (some ⟨g9, 0, none⟩) 6080 c9) rfl HS.out ?_ (hQ := fun _ _ _ h => absurd h.1 (by simp)) (he := (fun W hW => by have hc := hW.cell_some a8 (fun e => e); go_simp))
      refine hp 11 59 (.pointer (some ⟨b12, 1, none⟩)) rfl HS.out ?_ (hQ := fun _ _ _ h => absurd h.1 (by simp))
      refine hp 12 60 (.int .i64 (sz : Int)) rfl HS.out ?_ (hQ := fun _ _ _ h => absurd h.1 (by simp)) (he := (fun W hW => by have hc := hW.cell_some c1 (fun e => e); go_simp))
      refine hp 13 61 (.slice (some ⟨g9, 0, none⟩) sz c9) rfl HS.out ?_ (hQ := fun _ _ _ h => absurd h.1 (by simp))
      refine hp 15 63 (.pointer (some ⟨b12, 34, none⟩)) rfl HS.out ?_ (hQ := fun _ _ _ h => absurd h.1 (by simp))
      refine hp 16 64 (.int .u32 (sum : Int)) rfl HS.out ?_ (hQ := fun _ _ _ h => absurd h.1 (by simp)) (he := (fun W hW => by have hc := hW.cell_some c34 (fun e => e); go_simp))
      refine h1o 14 rfl ?_
      intro K hK
      go_simp
      refine HSum.out.mono ?_
      rintro e u0 ⟨rfl, hg⟩
      have HS := Lh hg
      refine hK.out _ _ HS.out (fun _ => ?_)
      clear hK K hg
      try simp only [Act.put, sA, sB, sC]
      refine hp 17 65 (.bool false) rfl HS.out ?_ (hQ := fun _ _ _ h => absurd h.1 (by simp))
      refine hp 18 66 (.bool false) rfl HS.out ?_ (hQ := fun _ _ _ h => absurd h.1 (by simp))
      refine hdn ?_ _
      exact ⟨rfl, (), by kernel_rfl, HS.out⟩
     ·clear hV2
      rintro _ v2 hg
      have HE := Lh (HD4.out.non hg)
      clear hg HD4 c0 c1 c34 a8
      simp only [Act.put, sA, sB, sC]
      have a8 := blk_cell HE.out.a 0 (v := .slice (some ⟨g9, 0, none⟩) 6080 c9) rfl
      have c1 := blk_cell HE.out.t 1 (tiA_1 n sz hash sum)
      have HPr := Lh (parse_core (some ⟨g9, 0, none⟩) ((kAll D p).take sz) c9 v2 (HE.out.r.take sz) (by rw [HSl.out.2]; omega))
      rw [HSl.out.2] at HPr
      go_wp2_with fail
      refine HPr.out.mono ?_
      have HSz := Lh (And.intro HE.out.g.size (Array.getElem?_eq_some_iff.1 HE.out.k).1)
      rintro e u9 (⟨s, vb, vd, hps, rfl, ho, hg⟩ | ⟨hps, rfl, hg⟩)
      ·have HE0 := Lh (HE.out.non hg)
       clear HE
       obtain ⟨A2, c2, rfl, hc2, hm2, _⟩ := ho.ps.rd
       obtain ⟨A3, c3, rfl, hc3, hm3, _⟩ := ho.qs.rd
       have HO := Lh ho
       have HYes : Hid (kAt D p = some (n, hash, s)) := Lh (by rw [HAt2.out, if_pos ⟨HNp.out, HSs.out⟩, hps]; rfl)
       obtain ⟨b14, hb14⟩ : ∃ b, u9.heap.size = b := ⟨_, rfl⟩
       have hz14 : ∀ o, (u9.alloc o).heap[b14]? = some o := fun o => by rw [← hb14]; exact heap_alloc_new _ _
       clear hg ho hps a8 c1 HPr
       have HEo := fun o => HE0.out.non ((Chg.refl Non u9).alloc o)
       obtain ⟨F, hF⟩ : ∃ F, fdA (tiA n sz hash sum) s.frames (.slice A2 s.parts.length c2) (.slice A3 s.queues.length c3) = F := ⟨_, rfl⟩
       have HFe := Lh (And.intro hF (And.intro (show F.size = 38 by rw [← hF]; exact fdA_size _ _ _ _ HTs.out) (show F.all (·.oneCell') = true by rw [← hF]; exact fdA_one _ _ _ _ _ _ _ _ (tiA_one _ _ _ _))))
       clear hF
       go_wp2_with (first
         | (refine sel (some 81) (.build 80 #[(0, .tmp 79), (1, .tmp 80)]) ?_
            refine wpList_plain rfl (fun K hK => ?_)
            go_simp
            rw [fd_build2 (tiA n sz hash sum) _ s.frames _ _ HTs.out rfl, fd_build1 (tiA n sz hash sum) _ HTs.out rfl, HFe.out.1]
            simp only [HTs.out, not_true_eq_false, decide_false, Bool.false_eq_true, false_or, show ¬ (38 < 35) by decide, show ¬ (38 < 38) by decide, if_false]
            go_simp
            refine hK _ _ ?_
            clear hK)
         | (refine sel (some 79) (.load 78 (.tmp 12)) ?_; refine wpList_load_row rfl 78 (.tmp 12) rfl b12 rfl 78 (tiA n sz hash sum) (0, 0) _ (HEo _).t Tryz.underlying78 rfl (by rw [HTs.out]; exact info_ti) ?_)
         | (refine sel none (.store 80 (.tmp 4) (.tmp 81)) ?_
            refine wpList_store_rowA rfl 80 (.tmp 4) (.tmp 81) rfl bF F rfl rfl 80 zFd (HEo _).f (by rw [HFe.out.2.1]; exact info_fd) (by rw [HFe.out.2.1]; exact zFd_size) HFe.out.2.2 ?_
            intro W9 hgW9 hbW9
            have hne : bE ≠ bF := by have := HBs.out; omega
            have hgu := ((Chg.refl Non u9).alloc (.cells #[.int .i64 s.frames, .slice A2 s.parts.length c2, .slice A3 s.queues.length c3] 25))
            have e9 := blk_cell (blk_keep (HEo _).e hgW9 hne) 0 (v := .int .i64 0) rfl
            have f9 := blk_free (blk_keep (HEo _).e hgW9 hne) 0))
       have hne : bE ≠ bF := by have := HBs.out; omega
       have hE9 := blk_set 0 (.int .i64 0) (blk_keep (HEo _).e hgW9 hne)
       have hF9 := blk_keep hbW9 (chg_set W9 bE 0 (.int .i64 0)) (fun e => hne e.symm)
       have hk9 : (W9.setCell ⟨bE, 0, none⟩ (.int .i64 0)).heap[Dd]? = some (.deferred (some [])) := blk_keep (blk_keep (HEo _).k hgW9 (fun e => by have e : Dd = bF := e; have := HBs.out; omega)) (chg_set W9 bE 0 _) (fun e => by have e : Dd = bE := e; have := HBs.out; omega)
       have hG9 : Chg Non w (W9.setCell ⟨bE, 0, none⟩ (.int .i64 0)) := ((HEo _).g.then_new hgW9 (fun x e => by have e : x = bF := e; have := HBs.out; omega)).then_new (chg_set W9 bE 0 _) (fun x e => by have e : x = bE := e; have := HBs.out; omega)
       have hT9 : Chg (fun k => k = bF ∨ k = bE ∨ k = Dd) u9 ((W9.setCell ⟨bE, 0, none⟩ (.int .i64 0)).putObj Dd (.deferred none)) :=
        ((((Chg.refl _ u9).alloc _).trans_same (hgW9.mono (fun k e => .inl e))).trans_same ((chg_set W9 bE 0 _).mono (fun k e => .inr (.inl e)))).grown (grownBy_putObj' _ Dd _) (fun g e => .inl (.inr (.inr (by injection e with e; exact e.symm))))
       refine ⟨by simp, .inl ⟨_, _, rfl, run_takeDeferred hk9, ?_⟩⟩
       have hfd : bF ≠ Dd ∧ bE ≠ Dd := by have := HBs.out; omega
       exact ⟨_, res_get (by kernel_rfl) (by kernel_rfl) (put_keep _ hF9 hfd.1) HFe.out.2.1 (put_keep _ hE9 hfd.2), .inr (.inr (.inr ⟨HUp.out, HNum.out.1, n, hash, s, sz, sum, _, _, HYes.out, HTh.out.1, by rw [HFe.out.1], HO.out.keepB hT9 (fun x hx e => by have := HSz.out; have := HBs.out; rcases e with e | e | e <;> omega) HSz.out.1, put_chg _ hG9 (by have := HBs.out; omega)⟩))⟩
      ·have HNo : Hid (kAt D p = none) := Lh (by rw [HAt2.out, if_pos ⟨HNp.out, HSs.out⟩, hps]; rfl)
       have HE0 := Lh (HE.out.non hg)
       clear HE
       obtain ⟨b14, hb14⟩ : ∃ b, u9.heap.size = b := ⟨_, rfl⟩
       have hz14 : ∀ o, (u9.alloc o).heap[b14]? = some o := fun o => by rw [← hb14]; exact heap_alloc_new _ _
       clear hg hps a8 c1 HPr
       go_wp2_with (first
         | (refine sel none (.store 25 (.tmp 14) (.tmp 74)) ?_
            refine wpList_store_rowA rfl 25 (.tmp 14) (.tmp 74) rfl b14 zStC rfl rfl 25 _ (hz14 _) info_st rfl (by kernel_rfl) ?_
            intro W4 hgW4 hbW4
            have hg54 : Chg Non u9 W4 := ((Chg.refl Non u9).alloc _).then_new hgW4 (fun x e => by have e : x = b14 := e; omega)
            have HE := Lh (HE0.out.non hg54)
            have HB14 := Lh hbW4
            have e9 := blk_cell HE.out.e 0 (v := .int .i64 0) rfl
            have f9 := blk_free HE.out.e 0
            have hlE9 := blk_lt HE.out.e)
         | (refine sel (some 78) (.build 80 _) ?_; refine wpList_valA rfl (some 78) (.agg zFd) rfl (by kernel_rfl) ?_)
         | (refine sel none (.store 80 (.tmp 4) (.tmp 78)) ?_
            refine wpList_store_rowA rfl 80 (.tmp 4) (.tmp 78) rfl bF zFd rfl rfl 80 zFd HE.out.f (by rw [zFd_size]; exact info_fd) rfl zFd_one ?_
            intro W9 hgW9 hbW9
            have hne : bE ≠ bF := by have := HBs.out; omega
            have e9 := blk_cell (blk_keep HE.out.e hgW9 hne) 0 (v := .int .i64 0) rfl
            have f9 := blk_free (blk_keep HE.out.e hgW9 hne) 0))
       have hne : bE ≠ bF := by have := HBs.out; omega
       have hE9 := blk_set 0 (.int .i64 0) (blk_keep HE.out.e hgW9 hne)
       have hF9 : (W9.setCell ⟨bE, 0, none⟩ (.int .i64 0)).heap[bF]? = some (.cells zFd 80 (0, 0)) := blk_keep hbW9 (chg_set W9 bE 0 _) (fun e => hne e.symm)
       have hk9 : (W9.setCell ⟨bE, 0, none⟩ (.int .i64 0)).heap[Dd]? = some (.deferred (some [])) := blk_keep (blk_keep HE.out.k hgW9 (fun e => by have e : Dd = bF := e; have := HBs.out; omega)) (chg_set W9 bE 0 _) (fun e => by have e : Dd = bE := e; have := HBs.out; omega)
       have hG9 : Chg Non w (W9.setCell ⟨bE, 0, none⟩ (.int .i64 0)) := (HE.out.g.then_new hgW9 (fun x e => by have e : x = bF := e; have := HBs.out; omega)).then_new (chg_set W9 bE 0 _) (fun x e => by have e : x = bE := e; have := HBs.out; omega)
       refine ⟨by simp, .inl ⟨_, _, rfl, run_takeDeferred hk9, ?_⟩⟩
       have hfd : bF ≠ Dd ∧ bE ≠ Dd := by have := HBs.out; omega
       exact ⟨_, res_get (by kernel_rfl) (by kernel_rfl) (put_keep _ hF9 hfd.1) zFd_size (put_keep _ hE9 hfd.2), .inr (.inr (.inl ⟨HUp.out, HNum.out.1, HNo.out, rfl, put_chg _ hG9 (by have := HBs.out; omega)⟩))⟩
   case stop =>
    rintro Dd cd pre W hD hsp ⟨⟨⟨rfl, hle⟩, hf, he⟩, hbl⟩ hK
    have HF := Lh (And.intro hK (And.intro hf (And.intro he hbl)))
    have HLe := Lh hle
    clear hle hf he hbl hK hsp
    gi_wp2_with fail
    refine ⟨by simp, .inl ⟨_, _, rfl, run_takeDeferred HF.out.1, ?_⟩⟩
    have hfd : bF ≠ Dd ∧ bE ≠ Dd := by omega
    refine ⟨_, res_get (by kernel_rfl) (by kernel_rfl) (put_keep _ HF.out.2.1 hfd.1) zFd_size (put_keep _ HF.out.2.2.1 hfd.2), .inr (.inl ⟨HUp.out, HLe.out, rfl, put_chg _ (Chg.of_below HF.out.2.2.2 (Nat.le_refl _)) (by have := HBs.out; omega)⟩)⟩
end
end Go.Proofs.YtkgnlobabknkcaaGreat
