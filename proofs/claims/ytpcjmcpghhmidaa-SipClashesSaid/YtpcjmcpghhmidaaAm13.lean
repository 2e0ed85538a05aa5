/- A part of a proof: a machine of abstract values that tells what functions of the program compute, and the plain facts on them. -/
import Derived.Test.YtpcjmcpghhmidaaAm11
import Derived.Test.YtpcjmcpghhmidaaAm7
import Derived.KernelRfl
import Derived.Test.YtpcjmcpghhmidaaAm12
set_option linter.unusedVariables false
set_option linter.unusedSimpArgs false
set_option linter.unnecessarySimpa false
set_option linter.unusedSectionVars false
namespace Go.Am
abbrev Qgm : Type := (Int × (Int × Unit))
abbrev Qgl : Ty := (.sl (.arr 32 (.int .u8)))
abbrev Qgk : Ty := (.pair (.int .u64) (.pair (.int .u64) .unit))
end Go.Am
namespace Go.Am
open Go Go.Proofs
noncomputable def Q08.ctx (k : Nat) : Ctx := ⟨Try.prog, gam [(57, Q00.sem k)]⟩
theorem Q08.gok (k : Nat) : ∀ f, Qz Try.prog f ((Q08.ctx k).Γ f) := QA (Q00.sem_ok k) Q03
abbrev HshT : Ty := .arr 32 (.int .u8)
abbrev zH : List Int := List.replicate 32 (0 : Int)
def slW (l : List (Nat × AVal)) : List AVal := l.foldl (fun s p => s.set p.1 p.2) (List.replicate 50 .undef)
abbrev kyA (ka kb : Int) : AVal := .pair (.int .u64 ka) (.pair (.int .u64 kb) .unit)
def cS (ids1 ids : List (List Int)) (n : Int) (ex : List (Nat × AVal)) (H : Heap) : St :=
 ⟨slW ([(1, .ros HshT ids1), (2, .ptr 0 []), (7, .mp 1), (14, .ros HshT ids), (15, .int .i64 n)] ++ ex), H⟩
noncomputable abbrev cl (p : List Nat) : Code := QZ (Func.code Try.f30) p
abbrev QdZ : List Nat := [1, 2, 4, 5, 6, 7, 8, 9, 10, 14, 15, 16, 17, 26, 27, 28]
theorem Q08.e3 (k : Nat) (ids1 ids : List (List Int)) (n i ka kb : Int) :
  evC (Q08.ctx k) (cl [1,1,0,1,0,0,0]) .nil (cS ids1 ids n [(16, .int .i64 i)] [some (kyA ka kb), none]) (fun e st => some (e, (⟨Q28 QdZ 0 st.sl, st.H⟩ : St))) =
   some (.normal, cS ids1 ids n [(16, .int .i64 i), (17, .bool (decide (i < n)))] [some (kyA ka kb), none]) := by kernel_rfl
theorem Q08.e4 (k : Nat) (ids1 ids : List (List Int)) (n i ka kb : Int) (b : Bool) :
  evC (Q08.ctx k) (cl [1,1,0,1,0,0,1,1,0,0,0]) .nil (cS ids1 ids n [(16, .int .i64 i), (17, .bool b)] [some (kyA ka kb), none]) (fun e st => some (e, (⟨Q28 [1, 2, 7, 8, 9, 14, 15, 16] 0 st.sl, st.H⟩ : St))) =
   cond (decide (0 ≤ i ∧ i < (ids.length : Nat))) (some (.normal, cS ids1 ids n [(8, .int .i64 i), (9, .ptr 2 []), (16, .int .i64 i)] [some (kyA ka kb), none, some (.arr 32 (.int .u8) (ids.getD i.toNat zH))])) none := by kernel_rfl
theorem Q08.e5 (k : Nat) (ids1 ids : List (List Int)) (n i ka kb : Int) (id : List Int) :
  evC (Q08.ctx k) (cl [1,1,0,1,0,0,1,1,0,0,1,0]) .nil (cS ids1 ids n [(8, .int .i64 i), (9, .ptr 2 []), (16, .int .i64 i)] [some (kyA ka kb), none, some (.arr 32 (.int .u8) id)]) (fun e st => some (e, (⟨Q28 QdZ 0 st.sl, st.H⟩ : St))) =
   (Q00 k (ka, (kb, ())) id).bind fun t => some (.normal, cS ids1 ids n [(8, .int .i64 i), (9, .ptr 2 []), (10, .int .u64 t.1), (16, .int .i64 i)] [some (kyA ka kb), none, some (.arr 32 (.int .u8) id)]) := by kernel_rfl
theorem Q08.e7 (k : Nat) (ids1 ids : List (List Int)) (n i ka kb s j len : Int) (id row : List Int) :
  evC (Q08.ctx k) (cl [1,1,0,1,0,0,1,1,0,0,1,1,0,1,0,0]) .nil (cS ids1 ids n [(8, .int .i64 i), (9, .ptr 2 []), (10, .int .u64 s), (16, .int .i64 i), (26, .vsl 3), (27, .int .i64 len), (28, .int .i64 j)] [some (kyA ka kb), none, some (.arr 32 (.int .u8) id), some (.vec (.int .i64) row)])
   (fun e st => some (e, (⟨Q28 [1, 2, 4, 5, 6, 7, 8, 9, 10, 14, 15, 16, 26, 27, 28] 0 st.sl, st.H⟩ : St))) =
   cond (decide (j < len)) (cond (decide (0 ≤ j ∧ j < (row.length : Nat))) (cond (decide (0 ≤ row.getD j.toNat 0 ∧ row.getD j.toNat 0 < (ids1.length : Nat)))
    (cond (!decide (ids1.getD (row.getD j.toNat 0).toNat zH = id))
     (some (.ret, cS ids1 ids n [(4, .int .i64 (row.getD j.toNat 0)), (5, .int .i64 i), (6, .bool true), (8, .int .i64 i), (9, .ptr 2 []), (10, .int .u64 s), (16, .int .i64 i), (26, .vsl 3), (27, .int .i64 len), (28, .int .i64 j)] [some (kyA ka kb), none, some (.arr 32 (.int .u8) id), some (.vec (.int .i64) row)]))
     (some (.normal, cS ids1 ids n [(8, .int .i64 i), (9, .ptr 2 []), (10, .int .u64 s), (16, .int .i64 i), (26, .vsl 3), (27, .int .i64 len), (28, .int .i64 (IntKind.i64.wrap (j + 1)))] [some (kyA ka kb), none, some (.arr 32 (.int .u8) id), some (.vec (.int .i64) row)]))) none) none)
    (some (.exit 2, cS ids1 ids n [(8, .int .i64 i), (9, .ptr 2 []), (10, .int .u64 s), (16, .int .i64 i), (26, .vsl 3), (27, .int .i64 len), (28, .int .i64 j)] [some (kyA ka kb), none, some (.arr 32 (.int .u8) id), some (.vec (.int .i64) row)])) := by kernel_rfl
theorem Q08.e13 (k : Nat) (ids1 ids : List (List Int)) (n i ka kb : Int) :
  evC (Q08.ctx k) (cl [1,1,0,1,0,0,1,1,1]) .nil (cS ids1 ids n [(16, .int .i64 i)] [some (kyA ka kb), none]) (fun e st => some (e, (⟨Q28 QdZ 0 st.sl, st.H⟩ : St))) =
   some (.normal, cS ids1 ids n [(16, .int .i64 (IntKind.i64.wrap (i + 1)))] [some (kyA ka kb), none]) := by kernel_rfl
abbrev QeU : Code → Array Oper | .region _ ops _ => ops | _ => #[]
noncomputable abbrev r6 : Array Oper := QeU (cl [1,1,0,1,0,0,1,1,0,0,1,1,0,0])
noncomputable abbrev r12 : Array Oper := QeU (cl [1,1,0,1,0,0,1,1,0,0,1,1,1])
abbrev Qcm (keep : List Nat) : St → List Eff → Option St := fun st _ => some ⟨Q28 keep 0 st.sl, st.H⟩
theorem Q08.e6a (k : Nat) (ids1 ids : List (List Int)) (n i ka kb s : Int) (H : Heap) :
  Q1o (Q08.ctx k) r6 (r6.toList.take 2) (cS ids1 ids n [(8, .int .i64 i), (9, .ptr 2 []), (10, .int .u64 s), (16, .int .i64 i)] H) [] (Qcm [1, 2, 7, 8, 9, 10, 14, 15, 16, 24, 25]) =
   some (cS ids1 ids n [(8, .int .i64 i), (9, .ptr 2 []), (10, .int .u64 s), (16, .int .i64 i), (24, .mp 1), (25, .int .u64 s)] H) := by kernel_rfl
theorem Q08.e6b (k : Nat) (ids1 ids : List (List Int)) (n i s : Int) (row : List Int) (h0 h1 h2 : Option AVal) :
  Q1o (Q08.ctx k) r6 (r6.toList.drop 3) (cS ids1 ids n [(8, .int .i64 i), (9, .ptr 2 []), (10, .int .u64 s), (16, .int .i64 i), (26, .vsl 3)] [h0, h1, h2, some (.vec (.int .i64) row)]) [] (Qcm [1, 2, 7, 8, 9, 10, 14, 15, 16, 26, 27, 28]) =
   some (cS ids1 ids n [(8, .int .i64 i), (9, .ptr 2 []), (10, .int .u64 s), (16, .int .i64 i), (26, .vsl 3), (27, .int .i64 (row.length : Nat)), (28, .int .i64 0)] [h0, h1, h2, some (.vec (.int .i64) row)]) := by kernel_rfl
theorem Q08.e12a (k : Nat) (ids1 ids : List (List Int)) (n i s : Int) (H : Heap) :
  Q1o (Q08.ctx k) r12 (r12.toList.take 4) (cS ids1 ids n [(8, .int .i64 i), (10, .int .u64 s), (16, .int .i64 i)] H) [] (Qcm [1, 2, 7, 8, 10, 14, 15, 16, 41, 42, 43, 44]) =
   some (cS ids1 ids n [(8, .int .i64 i), (10, .int .u64 s), (16, .int .i64 i), (41, .mp 1), (42, .int .u64 s), (43, .mp 1), (44, .int .u64 s)] H) := by kernel_rfl
theorem Q08.e12b (k : Nat) (ids1 ids : List (List Int)) (n i s : Int) (row : List Int) (h0 h1 h2 : Option AVal) :
  Q1o (Q08.ctx k) r12 ((r12.toList.drop 5).take 3) (cS ids1 ids n [(8, .int .i64 i), (10, .int .u64 s), (16, .int .i64 i), (41, .mp 1), (42, .int .u64 s), (45, .vsl 3)] [h0, h1, h2, some (.vec (.int .i64) row)]) [] (Qcm [1, 2, 7, 14, 15, 16, 41, 42, 48]) =
   cond (Nat.ble ((row.length + 1) * 8) 140737488355328) (some (cS ids1 ids n [(16, .int .i64 i), (41, .mp 1), (42, .int .u64 s), (48, .vsl 5)] [h0, h1, h2, none, some (.vec (.int .i64) [i]), some (.vec (.int .i64) (row ++ [i]))])) none := by kernel_rfl
end Go.Am
namespace Go.Am
open Go Go.Proofs
def Q3d (ids1 : List (List Int)) (id : List Int) : List Int → Option (Option Int)
 | [] => some none
 | x :: r => cond (decide (0 ≤ x ∧ x < (ids1.length : Nat))) (cond (!decide (ids1.getD x.toNat zH = id)) (some (some x)) (Q3d ids1 id r)) none
theorem Q08.hM : cl [1,1,0,1,0,0,1,1,0,0,1,1,0,1] = .block 2 (.loop (cl [1,1,0,1,0,0,1,1,0,0,1,1,0,1,0,0])) := by kernel_rfl
theorem Q3T {j : Nat} (h : j < 140737488355328) : IntKind.i64.wrap ((j : Int) + 1) = ((j + 1 : Nat) : Int) := by
 simp only [IntKind.wrap, IntKind.signed, IntKind.bits]
 simp
 omega
abbrev exI (i s len j : Int) : List (Nat × AVal) := [(8, .int .i64 i), (9, .ptr 2 []), (10, .int .u64 s), (16, .int .i64 i), (26, .vsl 3), (27, .int .i64 len), (28, .int .i64 j)]
abbrev H4 (ka kb : Int) (id row : List Int) : Heap := [some (kyA ka kb), none, some (.arr 32 (.int .u8) id), some (.vec (.int .i64) row)]
theorem Q08.inner (k : Nat) {ids1 ids : List (List Int)} {n i ka kb s : Int} {id row : List Int} {r : Option Int} (hr : Q3d ids1 id row = some r) (hlen : (row.length + 1) * 8 ≤ 140737488355328)
  {m : Mem} {μ : LMap} {w : World} {a : Act} {Q : Exit → Act → World → Prop} (rh : RH m μ (H4 ka kb id row) w) (rs : RS m μ (cS ids1 ids n (exI i s (row.length : Nat) 0) (H4 ka kb id row)).sl a)
  (hQ : ∀ a' w' m' μ', Q0i 4 m μ (H4 ka kb id row) w m' μ' (H4 ka kb id row) w' → match r with
   | none => RS m' μ' (cS ids1 ids n [(8, .int .i64 i), (10, .int .u64 s), (16, .int .i64 i)] (H4 ka kb id row)).sl a' → Q .normal a' w'
   | some x => RS m' μ' (slW [(4, .int .i64 x), (5, .int .i64 i), (6, .bool true)]) a' → Q .ret a' w') :
  (cl [1,1,0,1,0,0,1,1,0,0,1,1,0,1]).wp Try.prog Q a w := by
 rw [Q08.hM]
 refine wp_block (Q1A (fun c a' w' => ∃ (j : Nat) (m' : Mem) (μ' : LMap), c = row.length - j + 1 ∧ j ≤ row.length ∧ Q3d ids1 id (row.drop j) = some r ∧ RS m' μ' (cS ids1 ids n (exI i s (row.length : Nat) (j : Nat)) (H4 ka kb id row)).sl a' ∧ Q0i 4 m μ (H4 ka kb id row) w m' μ' (H4 ka kb id row) w') ?_ ?_ (n := row.length + 1)
  ⟨0, m, μ, rfl, Nat.zero_le _, hr, rs, (Post.refl rh).toW⟩)
 ·rintro a w ⟨j, _, _, h, _⟩
  omega
 ·rintro c a1 w1 ⟨j, m1, μ1, hc, hj, hf, rs1, p1⟩
  have key := Q08.e7 k ids1 ids n i ka kb s (j : Nat) (row.length : Nat) id row
  rcases Nat.lt_or_ge j row.length with hlt | hge
  ·-- one of the row
   rw [List.drop_eq_getElem_cons hlt] at hf
   have hg : row.getD (Int.toNat (j : Nat)) 0 = row[j] := by
    rw [Int.toNat_natCast, List.getD_eq_getElem?_getD, List.getElem?_eq_getElem hlt]; rfl
   rw [hg] at key
   have d1 : decide (((j : Nat) : Int) < ((row.length : Nat) : Int)) = true := by simp; omega
   have d2 : decide ((0 : Int) ≤ ((j : Nat) : Int) ∧ ((j : Nat) : Int) < ((row.length : Nat) : Int)) = true := by simp; omega
   rw [d1, d2, cond_true, cond_true] at key
   simp only [Q3d] at hf
   obtain ⟨d3, hf⟩ := Q4X hf
   rw [d3, cond_true] at key
   cases hd : (!decide (ids1.getD row[j].toNat zH = id)) with
   | true =>
    rw [hd, cond_true] at hf key
    cases hf
    refine (Q3N (np := 4) (Q08.gok k) Try.mix _ key) m1 μ1 w1 a1 _ p1.rh rs1 fun a2 w2 m2 μ2 rs2 p2 => ?_
    obtain ⟨m3, μ3, rs3, p3⟩ := Q7i (np := 4) [4, 5, 6] m2 μ2 w2 a2 p2.rh rs2
    exact hQ a2 w2 m3 μ3 (p1.trans (p2.trans p3)) rs3
   | false =>
    rw [hd, cond_false] at hf key
    rw [Q3T (by omega)] at key
    refine (Q3N (np := 4) (Q08.gok k) Try.mix _ key) m1 μ1 w1 a1 _ p1.rh rs1 fun a2 w2 m2 μ2 rs2 p2 => ?_
    exact ⟨j + 1, m2, μ2, by omega, hlt, hf, rs2, p1.trans p2⟩
  ·-- the end
   have d1 : decide (((j : Nat) : Int) < ((row.length : Nat) : Int)) = false := by simp; omega
   rw [d1, cond_false] at key
   rw [List.drop_eq_nil_of_le hge] at hf
   simp only [Q3d] at hf
   cases hf
   refine (Q3N (np := 4) (Q08.gok k) Try.mix _ key) m1 μ1 w1 a1 _ p1.rh rs1 fun a2 w2 m2 μ2 rs2 p2 => ?_
   simp only [Exit.then, Exit.inBlock, if_true]
   obtain ⟨m3, μ3, rs3, p3⟩ := Q7i (np := 4) [1, 2, 7, 8, 10, 14, 15, 16] m2 μ2 w2 a2 p2.rh rs2
   exact hQ a2 w2 m3 μ3 (p1.trans (p2.trans p3)) rs3
end Go.Am
namespace Go.Am
open Go Go.Proofs
theorem Q08.hL : cl [1,1,0,1,0,0] = .seq (cl [1,1,0,1,0,0,0]) (.seq (.cond (.tmp 17) .skip (.exit 0)) (.seq (.block 1 (.seq (cl [1,1,0,1,0,0,1,1,0,0,0]) (.seq (cl [1,1,0,1,0,0,1,1,0,0,1,0]) (.seq (.seq (.region 6 r6 false) (cl [1,1,0,1,0,0,1,1,0,0,1,1,0,1])) (.region 12 r12 false))))) (cl [1,1,0,1,0,0,1,1,1]))) := by kernel_rfl
theorem Q08.s6 : r6.size = 5 := by kernel_rfl
theorem Q08.s12 : r12.size = 9 := by kernel_rfl
theorem Q4P {α : Type} {l : List α} {x y : α} {i : Nat} (h : (l ++ [x])[i]? = some y) : (i = l.length ∧ y = x) ∨ (i < l.length ∧ l[i]? = some y) := by
 rcases Nat.lt_or_ge i l.length with h1 | h1
 ·rw [List.getElem?_append_left h1] at h; exact .inr ⟨h1, h⟩
 ·rw [List.getElem?_append_right h1] at h
  rcases Nat.eq_zero_or_pos (i - l.length) with h0 | h0
  ·rw [h0] at h; exact .inl ⟨by omega, (Option.some.inj h).symm⟩
  ·rw [List.getElem?_eq_none (by simp; omega)] at h; cases h
theorem Q08.o6 : (r6[2]?).map (fun o => (o.op, o.guard.isNone, o.dst)) = some (.lookup 145 (.tmp 24) (.tmp 25) false, true, some 26) := by kernel_rfl
theorem Q08.o12 : (r12[4]?).map (fun o => (o.op, o.guard.isNone, o.dst)) = some (.lookup 145 (.tmp 43) (.tmp 44) false, true, some 45) := by kernel_rfl
theorem Q08.u12 : (r12[8]?).map (fun o => (o.op, o.guard.isNone, o.dst)) = some (.mapUpdate 145 (.tmp 41) (.tmp 42) (.tmp 48), true, none) := by kernel_rfl
theorem QdL {o : Option Oper} {p : Op} {d : Option Nat} (h : o.map (fun o => (o.op, o.guard.isNone, o.dst)) = some (p, true, d)) : ∃ o', o = some o' ∧ o'.op = p ∧ o'.guard = none ∧ o'.dst = d := by
 cases o with
 | none => cases h
 | some o =>
  simp only [Option.map_some, Option.some.injEq, Prod.mk.injEq, Option.isNone_iff_eq_none] at h
  exact ⟨o, rfl, h.1, h.2.1, h.2.2⟩
theorem Q08.t145 : Try.prog.underlying 145 = some (.map 22 146) := by kernel_rfl
theorem Q08.t22 : Try.prog.underlying 22 = some (.int .u64) := by kernel_rfl
theorem Q08.eq22 (s : Int) : eqTy Try.prog 40 22 (.int .u64 s) = true := by kernel_rfl
theorem Q08.z146 : (Try.prog.info? 146).bind (fun i => i.zero) = some (.slice none 0 0) := by kernel_rfl
def rowV (s : Int) (rows : List (Int × List Int)) (es : Array MapEntry) : Value := match fnd (.int .u64) s rows with | some j => (es.toList.getD j default).val | none => .slice none 0 0
theorem Q08.look {m : Mem} {μ : LMap} {H : Heap} {w : World} {lo b : Nat} {rows : List (Int × List Int)} {es : Array MapEntry} {clock : Nat} {ls : List Loc} {hole : Option Nat} (h : HR m μ H w lo b rows es clock ls hole) (s : Int) :
  (Instr.lookup 145 (.map (some b)) (.int .u64 s) false).run Try.prog w = .ok (rowV s rows es) w := by
 obtain ⟨i, hi, hz⟩ := Option.bind_eq_some_iff.1 Q08.z146
 exact Qbm Q08.t145 Q08.t22 (Q08.eq22 s) hi hz h.map h.len h.key
theorem Q9i {m : Mem} {μ : LMap} {sl : List AVal} {a : Act} {t id : Nat} {l : Loc} (rs : RS m μ sl a) (h : sl.getD t .undef = .mp id) (hl : μ id = some l) : a.eval (.tmp t) = .map (some l.b) := by
 have hr := QL rs (.tmp t)
 have h' : QO sl (.tmp t) = .mp id := h
 rw [h'] at hr
 obtain ⟨l', h1, _, h3⟩ := hr.one rfl rfl
 rw [hl] at h1
 cases h1
 exact (List.cons.inj h3).1
theorem Q9S {m : Mem} {μ : LMap} {sl : List AVal} {a : Act} {t : Nat} {k : IntKind} {n : Int} (rs : RS m μ sl a) (h : sl.getD t .undef = .int k n) : a.eval (.tmp t) = .int k n := by
 have hr := QL rs (.tmp t)
 have h' : QO sl (.tmp t) = .int k n := h
 rw [h'] at hr
 exact (List.cons.inj (hr.one rfl rfl)).1
theorem QdC {m : Mem} {μ : LMap} {sl : List AVal} {a : Act} {t : Nat} {b : Bool} (rs : RS m μ sl a) (h : sl.getD t .undef = .bool b) : a.eval (.tmp t) = .bool b := by
 have hr := QL rs (.tmp t)
 have h' : QO sl (.tmp t) = .bool b := h
 rw [h'] at hr
 exact (List.cons.inj (hr.one rfl rfl)).1
theorem Qdp {np : Nat} {m0 m : Mem} {μ0 μ : LMap} {H0 H : Heap} {w0 w : World} (p : Q0i np m0 μ0 H0 w0 m μ H w) (hnp : np ≤ H.length) {b : Nat} {rows : List (Int × List Int)} {es : Array MapEntry} {clock : Nat} {ls : List Loc}
  (h : HR m μ H w w0.heap.size b rows es clock ls none) (s : Int) :
  ∃ μ', Q0i np m0 μ0 H0 w0 m μ' (H ++ [some (.vec (.int .i64) ((mget (.int .u64) s rows).getD []))]) w ∧ μ.le μ' ∧ VRel m μ' (.vsl H.length) (rowV s rows es) ∧
   HR m μ' (H ++ [some (.vec (.int .i64) ((mget (.int .u64) s rows).getD []))]) w w0.heap.size b rows es clock ls (fnd (.int .u64) s rows) := by
 unfold rowV
 cases hq : fnd (.int .u64) s rows with
 | none =>
  obtain ⟨g1, _⟩ := Q3r hq
  rw [g1]
  obtain ⟨μ', p1, p2, p3, p4⟩ := p.nothing
  exact ⟨μ', p1, p3, p4, h.step p2⟩
 | some j =>
  obtain ⟨y, g1, g2, g3, _⟩ := Q2M hq
  rw [g3]
  have hj : j < rows.length := (List.getElem?_eq_some_iff.1 g1).1
  have hje : j < es.toList.length := by rw [h.len]; exact hj
  have hjl : j < ls.length := by rw [h.len']; exact hj
  have hgd : es.toList.getD j default = es.toList[j] := by rw [List.getD_eq_getElem?_getD, List.getElem?_eq_getElem hje]; rfl
  obtain ⟨k1, k2, k3, k4⟩ := h.row j y es.toList[j] ls[j] (by simp) g1 (List.getElem?_eq_getElem hje) (List.getElem?_eq_getElem hjl)
  obtain ⟨p1, p2, p3⟩ := p.adopt hnp k1 k2 k3 (h.lows j ls[j] (by simp) (List.getElem?_eq_getElem hjl))
  refine ⟨_, p1, p2, ?_, ?_⟩
  ·dsimp only; rw [hgd]; exact p3
  ·obtain ⟨cs, fz, c1, _⟩ := k1.cells
   have nb : b ≠ ls[j].b := fun e => by
    have := h.map
    rw [e, c1] at this; cases this
   refine ⟨h.map, fun ho => ?_, h.len, h.len', h.key, fun i r e l hi h1 h2 h3 => ?_, fun i j' li lj hi hj' => h.inj i j' li lj (by simp) (by simp), fun i l hi => h.lows i l (by simp)⟩
   ·rcases Q6R ho with h1 | h1
    ·exact h.own h1
    ·exact nb h1
   ·obtain ⟨q1, q2, q3, q4⟩ := h.row i r e l (by simp) h1 h2 h3
    refine ⟨q1, fun ho => ?_, q3, q4⟩
    rcases Q6R ho with h5 | h5
    ·exact q2 h5
    ·exact hi (by rw [h.inj i j l ls[j] (by simp) (by simp) h3 (List.getElem?_eq_getElem hjl) h5])
theorem QeG {np : Nat} {m0 m : Mem} {μ0 μ : LMap} {H0 H : Heap} {w0 w : World} (p : Q0i np m0 μ0 H0 w0 m μ H w) {b : Nat} {rows : List (Int × List Int)} {es : Array MapEntry} {clock : Nat} {ls : List Loc} {s : Int}
  (h : HR m μ H w w0.heap.size b rows es clock ls (fnd (.int .u64) s rows)) (hb : b < w0.heap.size → Q0v μ0 H0 b) {k : Nat} {xs : List Int} {v : Value} (hk : H[k]? = some (some (.vec (.int .i64) xs))) (hx : 1 ≤ xs.length) (hv : VRel m μ (.vsl k) v)
  (hlow : ∀ l, μ k = some l → w0.heap.size ≤ l.b) :
  ∃ es' c' ls', (Instr.mapUpdate 145 (.map (some b)) (.int .u64 s) v).run Try.prog w = .ok () { w with heap := w.heap.setIfInBounds b (.map es' c') } ∧
   Q0i np m0 μ0 H0 w0 m μ (H.set k none) { w with heap := w.heap.setIfInBounds b (.map es' c') } ∧
   HR m μ (H.set k none) { w with heap := w.heap.setIfInBounds b (.map es' c') } w0.heap.size b (mset (.int .u64) s xs rows) es' c' ls' none := by
 obtain ⟨es', c', hrun, hes⟩ := QbZ (w := w) (s := s) v Q08.t145 Q08.t22 (Q08.eq22 s) h.map h.len h.key
 obtain ⟨l, hl, r1, r2, r3, r4⟩ := QdN p.rh hk hx hv
 have p1 := p.put h.map h.own hb (.map es' c')
 have p2 := p1.trans (p1.rh.kill k).toW
 have hbw := Q0p h.map
 obtain ⟨cs, fz, c1, _⟩ := r1.cells
 have hlw := Q0p c1
 have kept : ∀ {c : Nat} {cs : Array Value} {E : TypeId} {fz : Nat × Nat}, w.heap[c]? = some (.cells cs E fz) → (w.heap.setIfInBounds b (Obj.map es' c'))[c]? = w.heap[c]? := by
  intro c cs E fz hc
  rw [Array.getElem?_setIfInBounds_ne]
  intro e
  subst e
  rw [h.map] at hc; cases hc
 have own' : ∀ {c : Nat}, Q0v μ (H.set k none) c → Q0v μ H c := by
  rintro c ⟨j, x, lj, hj, hlj, q, he⟩
  exact ⟨j, x, lj, (Q18 hj).2, hlj, q, he⟩
 have hmap : (w.heap.setIfInBounds b (Obj.map es' c'))[b]? = some (.map es' c') := by simp [hbw]
 have rnew : Q79 m { w with heap := w.heap.setIfInBounds b (.map es' c') } xs v l := r1.step (Mem.le_refl m) (kept c1)
 have oldrow : ∀ (i : Nat) (r : Int × List Int) (e : MapEntry) (l' : Loc), some i ≠ fnd (.int .u64) s rows → rows[i]? = some r → es.toList[i]? = some e → ls[i]? = some l' →
   Q79 m { w with heap := w.heap.setIfInBounds b (.map es' c') } r.2 e.val l' ∧ ¬ Q0v μ (H.set k none) l'.b ∧ m l'.b = none ∧ (w.heap.setIfInBounds b (Obj.map es' c')).size > l'.b := by
  intro i r e l' hi h1 h2 h3
  obtain ⟨q1, q2, q3, q4⟩ := h.row i r e l' hi h1 h2 h3
  obtain ⟨cs', fz', d1, _⟩ := q1.cells
  exact ⟨q1.step (Mem.le_refl m) (kept d1), fun ho => q2 (own' ho), q3, by simpa using q4⟩
 have oldne : ∀ (i : Nat) (l' : Loc), some i ≠ fnd (.int .u64) s rows → ls[i]? = some l' → l'.b ≠ l.b := by
  intro i l' hi h3 e
  have hi' : i < ls.length := (List.getElem?_eq_some_iff.1 h3).1
  have hir : i < rows.length := by rw [← h.len']; exact hi'
  have hie : i < es.toList.length := by rw [h.len]; exact hir
  obtain ⟨_, q2, _⟩ := h.row i _ _ l' hi (List.getElem?_eq_getElem hir) (List.getElem?_eq_getElem hie) h3
  exact q2 (e ▸ r3)
 rcases hes with ⟨hq, e, e1, e2, e3⟩ | ⟨j, e, hq, e1, e2, e3⟩
 ·-- a new key
  obtain ⟨_, _, hms⟩ := Q3r hq
  rw [hq] at h oldrow oldne
  refine ⟨es', c', ls ++ [l], hrun, p2, hmap, fun ho => h.own (own' ho), ?_, ?_, ?_, ?_, ?_, ?_⟩
  ·rw [e3, hms]; simp only [List.length_append, List.length_singleton]; rw [h.len]
  ·rw [hms]; simp only [List.length_append, List.length_singleton]; rw [h.len']
  ·intro i r f h1 h2
   rw [hms] at h1
   rw [e3] at h2
   rcases Q4P h1 with ⟨i1, i2⟩ | ⟨i1, i2⟩
   ·subst i2
    rw [List.getElem?_append_right (by rw [h.len]; omega)] at h2
    rw [h.len, i1, Nat.sub_self] at h2
    cases h2
    exact e1
   ·rw [List.getElem?_append_left (by rw [h.len]; exact i1)] at h2
    exact h.key i r f i2 h2
  ·intro i r f l' _ h1 h2 h3
   rw [hms] at h1
   rw [e3] at h2
   rcases Q4P h1 with ⟨i1, i2⟩ | ⟨i1, i2⟩
   ·subst i2
    rw [List.getElem?_append_right (by rw [h.len]; omega)] at h2
    rw [h.len, i1, Nat.sub_self] at h2
    cases h2
    rw [List.getElem?_append_right (by rw [h.len']; omega)] at h3
    rw [h.len', i1, Nat.sub_self] at h3
    cases h3
    exact ⟨by rw [e2]; exact rnew, r4, r2, by simpa using hlw⟩
   ·rw [List.getElem?_append_left (by rw [h.len]; exact i1)] at h2
    rw [List.getElem?_append_left (by rw [h.len']; exact i1)] at h3
    exact oldrow i r f l' (by simp) i2 h2 h3
  ·intro i i' li lj _ _ h1 h2 he
   rcases Q4P h1 with ⟨i1, i2⟩ | ⟨i1, i2⟩
   ·rcases Q4P h2 with ⟨i3, i4⟩ | ⟨i3, i4⟩
    ·omega
    ·subst i2; exact (oldne i' lj (by simp) i4 he.symm).elim
   ·rcases Q4P h2 with ⟨i3, i4⟩ | ⟨i3, i4⟩
    ·subst i4; exact (oldne i li (by simp) i2 he).elim
    ·exact h.inj i i' li lj (by simp) (by simp) i2 i4 he
  ·intro i l' _ h1
   rcases Q4P h1 with ⟨i1, i2⟩ | ⟨i1, i2⟩
   ·subst i2; exact hlow _ hl
   ·exact h.lows i l' (by simp) i2
 ·-- a key that is there
  obtain ⟨y, g1, g2, _, g4⟩ := Q2M hq
  have hms := (g4 xs).1
  have hj : j < rows.length := (List.getElem?_eq_some_iff.1 g1).1
  have hje : j < es.toList.length := by rw [h.len]; exact hj
  have hjl : j < ls.length := by rw [h.len']; exact hj
  rw [hq] at h oldrow oldne
  have sne : ∀ {i : Nat}, i ≠ j → some i ≠ some j := fun hne he => hne (Option.some.inj he)
  refine ⟨es', c', ls.set j l, hrun, p2, hmap, fun ho => h.own (own' ho), ?_, ?_, ?_, ?_, ?_, ?_⟩
  ·rw [e3, hms]; simp only [List.length_set]; exact h.len
  ·rw [hms]; simp only [List.length_set]; exact h.len'
  ·intro i r f h1 h2
   rw [hms] at h1
   rw [e3] at h2
   by_cases hij : i = j
   ·subst hij
    rw [List.getElem?_set_self hj] at h1
    rw [List.getElem?_set_self hje] at h2
    cases h1; cases h2
    exact e1
   ·rw [List.getElem?_set_ne (Ne.symm hij)] at h1 h2
    exact h.key i r f h1 h2
  ·intro i r f l' _ h1 h2 h3
   rw [hms] at h1
   rw [e3] at h2
   by_cases hij : i = j
   ·subst hij
    rw [List.getElem?_set_self hj] at h1
    rw [List.getElem?_set_self hje] at h2
    rw [List.getElem?_set_self hjl] at h3
    cases h1; cases h2; cases h3
    exact ⟨by rw [e2]; exact rnew, r4, r2, by simpa using hlw⟩
   ·rw [List.getElem?_set_ne (Ne.symm hij)] at h1 h2 h3
    exact oldrow i r f l' (sne hij) h1 h2 h3
  ·intro i i' li lj _ _ h1 h2 he
   by_cases hij : i = j
   ·by_cases hij' : i' = j
    ·omega
    ·subst hij
     rw [List.getElem?_set_self hjl] at h1
     cases h1
     rw [List.getElem?_set_ne (Ne.symm hij')] at h2
     exact (oldne i' lj (sne hij') h2 he.symm).elim
   ·rw [List.getElem?_set_ne (Ne.symm hij)] at h1
    by_cases hij' : i' = j
    ·subst hij'
     rw [List.getElem?_set_self hjl] at h2
     cases h2
     exact (oldne i li (sne hij) h1 he).elim
    ·rw [List.getElem?_set_ne (Ne.symm hij')] at h2
     exact h.inj i i' li lj (sne hij) (sne hij') h1 h2 he
  ·intro i l' _ h1
   by_cases hij : i = j
   ·subst hij
    rw [List.getElem?_set_self hjl] at h1
    cases h1
    exact hlow _ hl
   ·rw [List.getElem?_set_ne (Ne.symm hij)] at h1
    exact h.lows i l' (sne hij) h1
end Go.Am
namespace Go.Am
open Go Go.Proofs
def Q1b (sh : List Int → Option (Int × Unit)) (ids1 ids : List (List Int)) (n : Int) : Nat → Int → List (Int × List Int) → Option ((Int × Int) ⊕ Unit)
  | 0, _, _ => none
  | f + 1, i, rows => cond (decide (i < n)) (cond (decide (0 ≤ i ∧ i < (ids.length : Nat))) ((sh (ids.getD i.toNat zH)).bind fun t =>
      cond (Nat.ble ((((mget (.int .u64) t.1 rows).getD []).length + 1) * 8) 140737488355328)
        ((Q3d ids1 (ids.getD i.toNat zH) ((mget (.int .u64) t.1 rows).getD [])).bind fun q => match q with
          | some x => some (.inl (x, i))
          | none => Q1b sh ids1 ids n f (IntKind.i64.wrap (i + 1)) (mset (.int .u64) t.1 ((mget (.int .u64) t.1 rows).getD [] ++ [i]) rows)) none) none) (some (.inr ()))
def Q5O : (Int × Int) ⊕ Unit → List AVal
 | .inl p => slW [(4, .int .i64 p.1), (5, .int .i64 p.2), (6, .bool true)]
 | .inr _ => slW []
def Qea : (Int × Int) ⊕ Unit → Exit
 | .inl _ => .ret
 | .inr _ => .exit 0
theorem RS.mask {m : Mem} {μ : LMap} {sl sl' : List AVal} {a : Act} (rs : RS m μ sl a) (keep : List Nat) (h : Q28 keep 0 sl = sl') : RS m μ sl' a := by
 subst h
 refine ⟨by rw [Q2y]; exact rs.size, rs.defers, fun i x hx => ?_⟩
 rcases Q50 hx with h | ⟨rfl, h⟩
 ·exact rs.rel i x h
 ·obtain ⟨v, hv⟩ := rs.vals h
  exact ⟨v, hv, Q2Y v⟩
theorem QaA {m : Mem} {μ : LMap} {sl sl' : List AVal} {H : Heap} {w : World} {a : Act} (rh : RH m μ H w) (rs : RS m μ sl a) (h : sl.map (fun a => (renA [] a).getD .undef) = sl') : ∃ m' μ', RS m' μ' sl' a ∧ Q0i 0 m μ H w m' μ' [] w := by
 subst h
 exact (Q7F (np := 0) (st := ⟨sl, H⟩) (keep := []) rfl rfl) m μ w a rh rs
theorem Q9E {m m' : Mem} {μ μ' : LMap} {id : Nat} {v : Value} (h : VRel m μ (.vsl id) v) (hf : ∀ l, μ id = some l → μ' id = some l) : VRel m' μ' (.vsl id) v := by
 obtain ⟨l, n, t, a, cap, h1, h2⟩ := h.one rfl rfl
 exact ⟨l, n, t, a, cap, hf l h1, h2⟩
theorem Q08.round (k : Nat) {ids1 ids : List (List Int)} {n ka kb : Int} {res : (Int × Int) ⊕ Unit} {f : Nat} {i : Int} {rows : List (Int × List Int)} (h : Q1b (Q00 k (ka, (kb, ()))) ids1 ids n (f + 1) i rows = some res)
  {m0 m : Mem} {μ0 μ : LMap} {H0 : Heap} {w0 w : World} {a : Act} {Q : Exit → Act → World → Prop} {lk lm : Loc} {es : Array MapEntry} {clock : Nat} {ls : List Loc}
  (hk0 : μ0 0 = some lk) (hl0 : μ0 1 = some lm) (hz : 0 < lk.tot ∨ lk.mp = true) (hown : ∀ c, Q0v μ0 H0 c → c = lk.b ∨ c = lm.b) (hmo : Q0v μ0 H0 lm.b) (p : Q0i 2 m0 μ0 H0 w0 m μ [some (kyA ka kb), none] w)
  (rs : RS m μ (cS ids1 ids n [(16, .int .i64 i)] []).sl a) (hr : HR m μ [some (kyA ka kb), none] w w0.heap.size lm.b rows es clock ls none)
  (hnext : ∀ i' rows' a' w' m' μ' es' c' ls', Q1b (Q00 k (ka, (kb, ()))) ids1 ids n f i' rows' = some res → Q0i 2 m0 μ0 H0 w0 m' μ' [some (kyA ka kb), none] w' →
   RS m' μ' (cS ids1 ids n [(16, .int .i64 i')] []).sl a' → HR m' μ' [some (kyA ka kb), none] w' w0.heap.size lm.b rows' es' c' ls' none → Q .normal a' w')
  (hend : ∀ a' w' m' μ', RS m' μ' (Q5O res) a' → Q0i 0 m0 μ0 H0 w0 m' μ' [] w' → Q (Qea res) a' w') : (cl [1,1,0,1,0,0]).wp Try.prog Q a w := by
 rw [Q08.hL]
 refine wp_seq ((Q3N (np := 2) (Q08.gok k) Try.mix _ (Q08.e3 k ids1 ids n i ka kb)) m μ w a _ p.rh rs fun a1 w1 m1 μ1 rs1 p1 => ?_)
 have hr1 := hr.step p1
 have p01 := p.trans p1
 have hb17 := QdC (t := 17) (b := decide (i < n)) rs1 rfl
 simp only [Q1b] at h
 refine wp_seq ?_
 cases hin : decide (i < n) with
 | false =>
  rw [hin] at hb17 h
  cases h
  refine wp_cond_false hb17 (wp_exit ?_)
  obtain ⟨m2, μ2, rs2, p2⟩ := QaA (sl' := slW []) p1.rh (rs1.mask [] (sl' := slW []) (by kernel_rfl)) (by kernel_rfl)
  exact hend a1 w1 m2 μ2 rs2 ((p01.weaken (by omega)).trans p2)
 | true =>
  have e4 := Q08.e4 k ids1 ids n i ka kb (decide (i < n))
  rw [hin] at hb17 h
  rw [cond_true] at h
  obtain ⟨hix, h⟩ := Q4X h
  obtain ⟨t, ht, h⟩ := Option.bind_eq_some_iff.1 h
  obtain ⟨hlen, h⟩ := Q4X h
  obtain ⟨q, hq, h⟩ := Option.bind_eq_some_iff.1 h
  rw [hix, cond_true] at e4
  generalize hrow : (mget (.int .u64) t.1 rows).getD [] = row at hlen hq h
  have hlen' : (row.length + 1) * 8 ≤ 140737488355328 := Nat.le_of_ble_eq_true hlen
  generalize hid : ids.getD i.toNat zH = id at ht hq h e4
  refine wp_cond_true hb17 (wp_skip ?_)
  simp only [Exit.then]
  refine wp_seq (wp_block (wp_seq ((Q3N (np := 2) (Q08.gok k) Try.mix _ e4) m1 μ1 w1 a1 _ p1.rh rs1 fun a2 w2 m2 μ2 rs2 p2 => ?_)))
  have hr2 := hr1.step p2
  have p02 := p01.trans p2
  have e5 := Q08.e5 k ids1 ids n i ka kb id
  rw [ht, Option.bind_some] at e5
  refine wp_seq ((Q3N (np := 2) (Q08.gok k) Try.mix _ e5) m2 μ2 w2 a2 _ p2.rh rs2 fun a3 w3 m3 μ3 rs3 p3 => ?_)
  have hr3 := hr2.step p3
  have p03 := p02.trans p3
  refine wp_seq (wp_seq (wp_region ?_))
  rw [List.range_eq_range', Q08.s6]
  refine Q7l (Q08.gok k) (os := r6.toList.take 2) 0 _ (fun j o hj => ?_) (Q08.e6a k ids1 ids n i ka kb t.1 _) [2, 3, 4] p3.rh rs3 fun a4 w4 m4 μ4 rs4 p4 => ?_
  ·rw [Nat.zero_add, ← Array.getElem?_toList]
   rw [List.getElem?_take] at hj
   split at hj
   ·exact hj
   ·cases hj
  have hr4 := hr3.step (p4.toW (np := 2))
  have p04 := p03.trans (p4.toW (np := 2))
  obtain ⟨o6, ho6, ho6a, ho6b, ho6c⟩ := QdL Q08.o6
  rw [wpOps_cons]
  have hm4 := p04.fix 1 lm (by omega) hl0
  have hmap4 := Q9i (t := 24) rs4 rfl hm4
  have hkey4 := Q9S (t := 25) (k := .u64) (n := t.1) rs4 rfl
  refine Q3E ho6 ho6b (Q74 ho6a (by rw [hmap4, hkey4]; exact Q08.look hr4 t.1)) ?_
  obtain ⟨μ5, p05, hle5, hv5, hr5⟩ := Qdp p04 (by show 2 ≤ 3; omega) hr4 t.1
  rw [hrow] at p05 hr5
  rw [ho6c]
  have rs5 : RS m4 μ5 (cS ids1 ids n [(8, .int .i64 i), (9, .ptr 2 []), (10, .int .u64 t.1), (16, .int .i64 i), (26, .vsl 3)] []).sl (a4.put (some 26) (rowV t.1 rows es)) := by
   refine ((rs4.mono (Mem.le_refl _) hle5).put (d := 26) (x := .vsl 3) hv5).mask [1, 2, 7, 8, 9, 10, 14, 15, 16, 26] ?_
   kernel_rfl
  refine Q7l (Q08.gok k) (os := r6.toList.drop 3) (st := cS ids1 ids n [(8, .int .i64 i), (9, .ptr 2 []), (10, .int .u64 t.1), (16, .int .i64 i), (26, .vsl 3)] _) 3 _ (fun j o hj => ?_) (Q08.e6b k ids1 ids n i t.1 row _ _ _) [] p05.rh rs5 fun a6 w6 m6 μ6 rs6 p6 => ?_
  ·rw [← Array.getElem?_toList]
   rw [List.getElem?_drop] at hj
   exact hj
  have hr6 := hr5.step (p6.toW (np := 2))
  have p06 := p05.trans (p6.toW (np := 2))
  have hv6 : VRel m6 μ6 (.vsl 3) (rowV t.1 rows es) := Q9E hv5 fun l hl => p6.μl 3 l hl
  simp only [wpOps, Exit.then]
  refine Q08.inner k hq hlen' (s := t.1) p6.rh rs6 fun a7 w7 m7 μ7 p7 => ?_
  cases q with
  | some x =>
   intro rs7
   cases h
   obtain ⟨m8, μ8, rs8, p8⟩ := QaA (sl' := slW [(4, .int .i64 x), (5, .int .i64 i), (6, .bool true)]) p7.rh rs7 (by kernel_rfl)
   exact hend a7 w7 m8 μ8 rs8 ((p06.weaken (by omega)).trans ((p7.weaken (by omega)).trans p8))
  | none =>
   intro rs7
   have hr7 := hr6.step p7
   have p07 := p06.trans (p7.weaken (by omega))
   have hv7 : VRel m7 μ7 (.vsl 3) (rowV t.1 rows es) := Q9E hv6 fun l hl => p7.fix 3 l (by omega) hl
   simp only [Exit.then]
   refine wp_region ?_
   rw [List.range_eq_range', Q08.s12]
   refine Q7l (Q08.gok k) (os := r12.toList.take 4) 0 _ (fun j o hj => ?_) (Q08.e12a k ids1 ids n i t.1 _) [4, 5, 6, 7, 8] p7.rh rs7 fun a8 w8 m8 μ8 rs8 p8 => ?_
   ·rw [Nat.zero_add, ← Array.getElem?_toList]
    rw [List.getElem?_take] at hj
    split at hj
    ·exact hj
    ·cases hj
   have hr8 := hr7.step (p8.toW (np := 2))
   have p08 := p07.trans (p8.toW (np := 2))
   have hv8 : VRel m8 μ8 (.vsl 3) (rowV t.1 rows es) := Q9E hv7 fun l hl => p8.μl 3 l hl
   obtain ⟨o12, ho, hoa, hob, hoc⟩ := QdL Q08.o12
   rw [wpOps_cons]
   have hm8 := p08.fix 1 lm (by omega) hl0
   have hmap8 := Q9i (t := 43) rs8 rfl hm8
   have hkey8 := Q9S (t := 44) (k := .u64) (n := t.1) rs8 rfl
   refine Q3E ho hob (Q74 hoa (by rw [hmap8, hkey8]; exact Q08.look hr8 t.1)) ?_
   rw [hoc]
   have rs9 : RS m8 μ8 (cS ids1 ids n [(8, .int .i64 i), (10, .int .u64 t.1), (16, .int .i64 i), (41, .mp 1), (42, .int .u64 t.1), (45, .vsl 3)] []).sl (a8.put (some 45) (rowV t.1 rows es)) := by
    refine (rs8.put (d := 45) (x := .vsl 3) hv8).mask [1, 2, 7, 8, 10, 14, 15, 16, 41, 42, 45] ?_
    kernel_rfl
   have e12 := Q08.e12b k ids1 ids n i t.1 row (some (kyA ka kb)) none (some (.arr 32 (.int .u8) id))
   rw [hlen, cond_true] at e12
   refine Q7l (Q08.gok k) (os := (r12.toList.drop 5).take 3) (st := cS ids1 ids n [(8, .int .i64 i), (10, .int .u64 t.1), (16, .int .i64 i), (41, .mp 1), (42, .int .u64 t.1), (45, .vsl 3)] _) 5 _ (fun j o hj => ?_) e12 [8] p8.rh rs9 fun a10 w10 m10 μ10 rs10 p10 => ?_
   ·rw [← Array.getElem?_toList]
    rw [List.getElem?_take] at hj
    split at hj
    ·rw [List.getElem?_drop] at hj; exact hj
    ·cases hj
   have hr10 := hr8.step (p10.toW (np := 2))
   have p010 := p08.trans (p10.toW (np := 2))
   obtain ⟨u12, hu, hua, hub, huc⟩ := QdL Q08.u12
   rw [wpOps_cons]
   have hm10 := p010.fix 1 lm (by omega) hl0
   have hmap10 := Q9i (t := 41) rs10 rfl hm10
   have hkey10 := Q9S (t := 42) (k := .u64) (n := t.1) rs10 rfl
   have hv10 : VRel m10 μ10 (.vsl 5) (a10.eval (.tmp 48)) := QL rs10 (.tmp 48)
   have hk10 := p010.fix 0 lk (by omega) hk0
   obtain ⟨es', c', ls', g1, g2, g3⟩ := QeG (k := 5) (xs := row ++ [i]) p010 hr10 (fun _ => hmo) rfl (by simp) hv10 (fun l hl => by
    rcases Nat.lt_or_ge l.b w0.heap.size with hlt | hge
    ·exfalso
     obtain ⟨l', h1, h2, h3, h4, h5⟩ := QdN p010.rh (k := 5) (xs := row ++ [i]) rfl (by simp) hv10
     rw [hl] at h1
     cases h1
     rcases hown _ (p010.grow _ h4 hlt) with e | e
     ·have := Q4T p010.rh (i := 5) (j := 0) (a := .vec (.int .i64) (row ++ [i])) (b := kyA ka kb) rfl rfl hl hk10 (.inl h2.pos) hz e
      cases this
     ·obtain ⟨cs, fz, c1, _⟩ := h2.cells
      have := hr10.map
      rw [← e, c1] at this; cases this
    ·exact hge)
   refine Qd3 hu hub (Qaw hua (by rw [hmap10, hkey10]; exact g1)) ?_
   rw [huc]
   simp only [wpOps, Exit.then, Exit.inBlock, Act.put]
   have rs11 : RS m10 μ10 (cS ids1 ids n [(16, .int .i64 i)] []).sl a10 := rs10.mask [1, 2, 7, 14, 15, 16] (by kernel_rfl)
   obtain ⟨m12, μ12, rs12, p12⟩ := (Q7F (np := 2) (st := ⟨(cS ids1 ids n [(16, .int .i64 i)] []).sl, [some (kyA ka kb), none, some (.arr 32 (.int .u8) id), none, some (.vec (.int .i64) [i]), none]⟩) (keep := [0, 1]) rfl rfl) m10 μ10 _ a10 g2.rh rs11
   have rs12' : RS m12 μ12 (cS ids1 ids n [(16, .int .i64 i)] []).sl a10 := rs12
   have hr12 := g3.step p12
   have p012 := g2.trans p12
   refine (Q3N (np := 2) (Q08.gok k) Try.mix _ (Q08.e13 k ids1 ids n i ka kb)) m12 μ12 _ a10 _ p12.rh rs12' fun a13 w13 m13 μ13 rs13 p13 => ?_
   exact hnext _ _ a13 w13 m13 μ13 _ _ _ h (p012.trans p13) rs13 (hr12.step p13)
end Go.Am
namespace Go.Am
open Go Go.Proofs
def asHs : AVal → Option (List (List Int))
 | .ros t xs => if h : t = HshT then some (h ▸ xs : List HshT.den) else none
 | _ => none
theorem Qcx {v : AVal} {xs : List (List Int)} (h : asHs v = some xs) : v = .ros HshT xs := by
 cases v with
 | ros t ys =>
  simp only [asHs] at h
  split at h
  ·rename_i e; subst e; cases h; rfl
  ·cases h
 | _ => cases h
def Q86 (k : Nat) : Q27 := ⟨fun st K =>
 match st.H with
 | [some (.pair (.int .u64 ka) (.pair (.int .u64 kb) .unit)), some (.mpc kt vt [])] =>
  match asHs (st.sl.getD 1 .undef), asHs (st.sl.getD 14 .undef), st.sl.getD 15 .undef, st.sl.getD 16 .undef, st.sl.getD 2 .undef, st.sl.getD 7 .undef with
  | some ids1, some ids, .int .i64 n, .int .i64 i, .ptr 0 [], .mp 1 =>
   cond (Nat.beq st.sl.length 50) ((Q1b (Q00 k (ka, (kb, ()))) ids1 ids n (ids.length + 1) i []).bind fun r => match r with
    | .inl p => K .ret ⟨Q5O (.inl p), []⟩
    | .inr q => K .normal ⟨Q5O (.inr q), []⟩) none
  | _, _, _, _, _, _ => none
 | _ => none⟩
theorem Qem {L : List (Nat × AVal)} {j : Nat} {x : AVal} (h : (slW L)[j]? = some x) : x = .undef ∨ (j, x) ∈ L := by
 unfold slW at h
 have key : ∀ (L : List (Nat × AVal)) (b : List AVal), (L.foldl (fun s p => s.set p.1 p.2) b)[j]? = some x → b[j]? = some x ∨ (j, x) ∈ L := by
  intro L
  induction L with
  | nil => intro b h; exact .inl h
  | cons p L ih =>
   intro b h
   rcases ih _ h with h1 | h1
   ·by_cases hp : p.1 = j
    ·subst hp
     have hlt : p.1 < b.length := by
      have := (List.getElem?_eq_some_iff.1 h1).1
      simpa using this
     rw [List.getElem?_set_self hlt] at h1
     cases h1
     exact .inr (by simp)
    ·rw [List.getElem?_set_ne hp] at h1
     exact .inl h1
   ·exact .inr (by simp [h1])
 rcases key L _ h with h1 | h1
 ·rw [List.getElem?_replicate] at h1
  split at h1
  ·exact .inl (Option.some.inj h1).symm
  ·cases h1
 ·exact .inr h1
theorem Q8k (L : List (Nat × AVal)) : (slW L).length = 50 := by
 unfold slW
 have key : ∀ (L : List (Nat × AVal)) (b : List AVal), (L.foldl (fun s p => s.set p.1 p.2) b).length = b.length := by
  intro L
  induction L with
  | nil => intro b; rfl
  | cons p L ih => intro b; rw [List.foldl_cons, ih]; simp
 rw [key]; simp
theorem Q08.hB : cl [1,1,0,1] = .block 0 (.loop (cl [1,1,0,1,0,0])) := by kernel_rfl
theorem Q08.st_ok (k : Nat) : StOK 0 Try.prog (cl [1,1,0,1]) (Q86 k) := by
 intro ρ st K r h
 simp only [Q86] at h
 split at h
 case h_2 => cases h
 rename_i ka kb kt vt hH
 split at h
 case h_2 => cases h
 rename_i ids1 ids n i e1 e14 e15 e16 e2 e7
 rw [Bool.cond_eq_ite] at h
 split at h
 case isFalse => cases h
 rename_i hlen
 have hlen := Nat.eq_of_beq_eq_true hlen
 obtain ⟨res, hgo, hK⟩ := Option.bind_eq_some_iff.1 h
 refine ⟨(match res with | .inl _ => .ret | .inr _ => .normal), ⟨Q5O res, []⟩, by cases res <;> exact hK, fun m μ w a Q rh rs hQ => ?_⟩
 rw [Q08.hB]
 have g0 : st.H[0]? = some (some (kyA ka kb)) := by rw [hH]; rfl
 have g1 : st.H[1]? = some (some (.mpc kt vt [])) := by rw [hH]; rfl
 have hv7 : VRel m μ (.mp 1) (a.eval (.tmp 7)) := by
  have := QL rs (.tmp 7)
  have h' : QO st.sl (.tmp 7) = .mp 1 := e7
  rw [h'] at this; exact this
 obtain ⟨lm, es, clock, hlm, hmp, _, hmap, hrel⟩ := Q6k rh g1 hv7
 have hes : es.toList.length = 0 := by have := hrel.1.1; simpa using this
 obtain ⟨lk, hbk⟩ := rh.blk 0 _ g0
 have hz : 0 < lk.tot := by
  rcases hbk.cells with ⟨_, _, h3, _⟩ | ⟨h3, _⟩
  ·cases h3
  ·exact h3
 have hown : ∀ c, Q0v μ st.H c → c = lk.b ∨ c = lm.b := by
  rintro c ⟨j, x, lj, hj, hlj, _, he⟩
  rw [hH] at hj
  match j, hj with
  | 0, _ =>
   have := hbk.loc.symm.trans hlj
   cases this; exact .inl he.symm
  | 1, _ =>
   rw [hlm] at hlj
   cases hlj; exact .inr he.symm
  | j + 2, hj => simp at hj
 have hmo : Q0v μ st.H lm.b := ⟨1, _, lm, g1, hlm, .inr hmp, rfl⟩
 have pk := (rh.kill 1).toW (np := 2)
 have hset : st.H.set 1 none = [some (kyA ka kb), none] := by rw [hH]; rfl
 have nown : ¬ Q0v μ (st.H.set 1 none) lm.b := by
  rintro ⟨j, x, lj, hj, hlj, q, he⟩
  have := Q18 hj
  exact this.1 (Q4T rh this.2 g1 hlj hlm q (.inr hmp) he)
 rw [hset] at pk nown
 have rs0 : RS m μ (cS ids1 ids n [(16, .int .i64 i)] []).sl a := by
  refine ⟨by rw [rs.size, hlen]; exact (Q8k _).symm, rs.defers, fun j x hx => ?_⟩
  have hj : j < 50 := by
   have := (List.getElem?_eq_some_iff.1 hx).1
   rwa [show (cS ids1 ids n [(16, .int .i64 i)] []).sl.length = 50 from Q8k _] at this
  rcases Qem hx with rfl | hm
  ·obtain ⟨v, hv⟩ := rs.vals (j := j) (by omega)
   exact ⟨v, hv, Q2Y v⟩
  ·have got : ∀ {j : Nat} {x : AVal}, st.sl.getD j .undef = x → x ≠ .undef → ∃ v, a.tmps[j]? = some v ∧ VRel m μ x v := by
    intro j x hx hne
    refine rs.rel j x ?_
    rw [List.getD_eq_getElem?_getD] at hx
    cases hq : st.sl[j]? with
    | none => rw [hq] at hx; exact absurd hx.symm hne
    | some y => rw [hq] at hx; exact congrArg some hx
   simp only [List.cons_append, List.nil_append, List.mem_cons, Prod.mk.injEq, List.not_mem_nil, or_false] at hm
   rcases hm with ⟨rfl, rfl⟩ | ⟨rfl, rfl⟩ | ⟨rfl, rfl⟩ | ⟨rfl, rfl⟩ | ⟨rfl, rfl⟩ | ⟨rfl, rfl⟩
   ·exact got (Qcx e1) (by simp)
   ·exact got e2 (by simp)
   ·exact got e7 (by simp)
   ·exact got (Qcx e14) (by simp)
   ·exact got e15 (by simp)
   ·exact got e16 (by simp)
 have hr0 : HR m μ [some (kyA ka kb), none] w w.heap.size lm.b [] es clock [] none :=
  ⟨hmap, nown, hes, rfl, fun i r e h1 => by simp at h1, fun i r e l _ h1 => by simp at h1, fun i j li lj _ _ h1 => by simp at h1, fun i l _ h1 => by simp at h1⟩
 refine wp_block (Q1A (fun f a' w' => ∃ i rows m' μ' es c ls, Q1b (Q00 k (ka, (kb, ()))) ids1 ids n f i rows = some res ∧ Q0i 2 m μ st.H w m' μ' [some (kyA ka kb), none] w' ∧
  RS m' μ' (cS ids1 ids n [(16, .int .i64 i)] []).sl a' ∧ HR m' μ' [some (kyA ka kb), none] w' w.heap.size lm.b rows es c ls none) ?_ ?_ (n := ids.length + 1) ⟨i, [], m, μ, es, clock, [], hgo, pk, rs0, hr0⟩)
 ·rintro a w ⟨i, rows, _, _, _, _, _, h, _⟩
  cases h
 ·rintro f a1 w1 ⟨i1, rows, m1, μ1, es1, c1, ls1, h1, p1, rs1, hr1⟩
  refine Q08.round k h1 hbk.loc hlm (.inl hz) hown hmo p1 rs1 hr1 (fun i' rows' a' w' m' μ' es' c' ls' h2 p2 rs2 hr2 => ⟨i', rows', m', μ', es', c', ls', h2, p2, rs2, hr2⟩) fun a' w' m' μ' rs2 p2 => ?_
  cases res with
  | inl p => exact hQ a' w' m' μ' rs2 p2
  | inr q => exact hQ a' w' m' μ' rs2 p2
def Q0a.c (k : Nat) {ρ : Type} (k_0 : Qgm) (ids : (List (List Int))) (K : Int × Int × Bool × Unit → Option ρ) : Option ρ :=
 (Q1b (Q00 k (k_0.1, (k_0.2.1, ()))) ids ids (ids.length : Nat) (ids.length + 1) 0 []).bind fun r => match r with
  | .inl p => K (p.1, (p.2, (true, ())))
  | .inr _ => K (0, (0, (false, ())))
def Q0a (k : Nat) (k_0 : Qgm) (ids : (List (List Int))) : Option (Int × Int × Bool × Unit) := Q0a.c k k_0 ids some
def Q0a.tin : List Ty := [Qgk, Qgl]
def Q0a.tout : List Ty := [(.int .i64), (.int .i64), .bool]
def Q0a.sem (k : Nat) : QK := QR Q0a.tin Q0a.tout fun x => Q0a k x.1 x.2.1
def Q0a.ann (k : Nat) : Ann := .node [] none .nil (.node [] none .nil (.node [] none (.node [] none .nil (.node [] (some (Q86 k)) .nil .nil)) .nil))
theorem Q0a.body (k : Nat) : Q0t (Q08.ctx k) Try.f30 (Func.code Try.f30) (Q0a.ann k) Q0a.tin Q0a.tout (fun x K => Q0a.c k x.1 x.2.1 K) := by
 intro ρ x K; kernel_rfl
theorem Q0a.hc : Func.code Try.f30 = .seq (cl [0]) (.seq (cl [1,0]) (.seq (.seq (cl [1,1,0,0]) (cl [1,1,0,1])) (cl [1,1,1]))) := by kernel_rfl
theorem Q0a.ann_ok (k : Nat) : Q8 0 Try.prog (Func.code Try.f30) (Q0a.ann k) := by
 rw [Q0a.hc]
 exact ⟨rfl, Q2g, rfl, Q2g, rfl, ⟨rfl, Q2g, Q6d (Q08.st_ok k)⟩, Q2g⟩
theorem Q0a.sem_ok (k : Nat) : Qz Try.prog 30 (Q0a.sem k) :=
 QT (C := Q08.ctx k) (Q08.gok k) Try.mix (c := Func.code Try.f30) (ann := Q0a.ann k) (tin := Q0a.tin) (tout := Q0a.tout) (fun x K => Q0a.c k x.1 x.2.1 K) Try.func30 (by kernel_rfl) (by kernel_rfl) (Q0a.ann_ok k) (Q0a.body k)
end Go.Am
namespace Go.Am
open Go Go.Proofs
set_option maxRecDepth 100000
abbrev Q0.p0.σ : Type := (List (List Int)) × Qgm × Unit
abbrev Q0.p0.τ : Type := ((List (List Int)) × Qgm × Unit)
def Q0.p0.r (k : Nat) {ρ : Type} (x : Q0.p0.σ) (K : Q0.p0.τ → Option ρ) : Option ρ :=
 let v0 : Int := (((List.length x.1) : Nat) : Int)
 bif (decide (v0 > (60 : Int))) then (bif (decide (((0 : Int) ≤ (0 : Int)) ∧ (((0 : Int) ≤ (60 : Int)) ∧ ((60 : Int) ≤ (((List.length x.1) : Nat) : Int))))) then (let v1 : (List (List Int)) := (List.drop 0 (List.take 60 x.1))
 K (v1, ((x.2.1.1, (x.2.1.2.1, ())), ()))) else (none)) else (K (x.1, ((x.2.1.1, (x.2.1.2.1, ())), ())))
def Q0.p0 (k : Nat) (x : Q0.p0.σ) : Option Q0.p0.τ := Q0.p0.r k x some
def Q0.p0.T : StT := ⟨us 1 ++ .dat Qgl :: .ptr 0 [] :: us 87, [.dat Qgk]⟩
def Q0.p0.os : List Out := [⟨.normal, [.mask [1, 2], .auto 0], ⟨us 1 ++ .dat Qgl :: .ptr 0 [] :: us 87, [.dat Qgk]⟩⟩]
abbrev Q0.l2.σ : Type := (List (List Int)) × Int × Int × Bool × Int × Int × Qgm × Unit
abbrev Q0.l2.τ : Type := (Bool × Unit) ⊕ ((List (List Int)) × Int × Int × Bool × Int × Qgm × Unit)
def Q0.l2.r (k : Nat) {ρ : Type} (x : Q0.l2.σ) (kn : Q0.l2.σ → Option ρ) (ke : Q0.l2.τ → Option ρ) : Option ρ :=
 bif (decide (x.2.2.2.2.2.1 < x.2.2.2.2.1)) then (bif (decide (((0 : Int) ≤ x.2.2.2.2.2.1) ∧ (x.2.2.2.2.2.1 < (((List.length x.1) : Nat) : Int)))) then (let v7 : (List Int) := (List.getD x.1 (Int.toNat x.2.2.2.2.2.1) (List.replicate 32 (0 : Int)))
 bif (decide (((0 : Int) ≤ x.2.2.2.2.1) ∧ (x.2.2.2.2.1 < (((List.length x.1) : Nat) : Int)))) then (let v8 : (List Int) := (List.getD x.1 (Int.toNat x.2.2.2.2.1) (List.replicate 32 (0 : Int)))
 bif (!(decide (v7 = v8))) then (let v9 : Int := x.2.2.2.2.2.2.1.1
 let v10 : Int := x.2.2.2.2.2.2.1.2.1
 bif (decide (((0 : Int) ≤ x.2.2.2.2.2.1) ∧ (x.2.2.2.2.2.1 < (((List.length x.1) : Nat) : Int)))) then (let v11 : (List Int) := (List.getD x.1 (Int.toNat x.2.2.2.2.2.1) (List.replicate 32 (0 : Int)))
 (Ql k v9 v10 v11).bind fun t12 => let v13 : Int := x.2.2.2.2.2.2.1.1
 let v14 : Int := x.2.2.2.2.2.2.1.2.1
 bif (decide (((0 : Int) ≤ x.2.2.2.2.1) ∧ (x.2.2.2.2.1 < (((List.length x.1) : Nat) : Int)))) then (let v15 : (List Int) := (List.getD x.1 (Int.toNat x.2.2.2.2.1) (List.replicate 32 (0 : Int)))
 (Ql k v13 v14 v15).bind fun t16 => bif (t12.1 == t16.1) then ((Qp k ).bind fun t17 => bif t17.1 then (bif x.2.2.2.1 then (bif (x.2.1 == x.2.2.2.2.2.1) then (ke (.inl ((x.2.2.1 == x.2.2.2.2.1), ()))) else (ke (.inl (false, ())))) else (ke (.inl (false, ())))) else (ke (.inl (false, ())))) else (let v18 : Int := (IntKind.wrap IntKind.i64 (x.2.2.2.2.2.1 + (1 : Int)))
 kn (x.1, (x.2.1, (x.2.2.1, (x.2.2.2.1, (x.2.2.2.2.1, (v18, ((x.2.2.2.2.2.2.1.1, (x.2.2.2.2.2.2.1.2.1, ())), ()))))))))) else (none)) else (none)) else (let v19 : Int := (IntKind.wrap IntKind.i64 (x.2.2.2.2.2.1 + (1 : Int)))
 kn (x.1, (x.2.1, (x.2.2.1, (x.2.2.2.1, (x.2.2.2.2.1, (v19, ((x.2.2.2.2.2.2.1.1, (x.2.2.2.2.2.2.1.2.1, ())), ()))))))))) else (none)) else (none)) else (ke (.inr (x.1, (x.2.1, (x.2.2.1, (x.2.2.2.1, (x.2.2.2.2.1, ((x.2.2.2.2.2.2.1.1, (x.2.2.2.2.2.2.1.2.1, ())), ()))))))))
def Q0.l2 (k : Nat) : Nat → Q0.l2.σ → Option Q0.l2.τ := Q0o (Q0.l2.r k)
def Q0.l2.T : StT := ⟨us 1 ++ .dat Qgl :: .ptr 0 [] :: us 2 ++ .dat (.int .i64) :: .dat (.int .i64) :: .dat .bool :: .dat (.int .i64) :: .dat (.int .i64) :: us 80, [.dat Qgk]⟩
def Q0.l2.os : List Out := [⟨.ret, [.mask [4], .auto 0], ⟨us 4 ++ .dat .bool :: us 85, []⟩⟩, ⟨(.exit 2), [.mask [1, 2, 5, 6, 7, 8], .auto 0], ⟨us 1 ++ .dat Qgl :: .ptr 0 [] :: us 2 ++ .dat (.int .i64) :: .dat (.int .i64) :: .dat .bool :: .dat (.int .i64) :: us 81, [.dat Qgk]⟩⟩]
abbrev Q0.l1.σ : Type := (List (List Int)) × Int × Int × Bool × Int × Qgm × Unit
abbrev Q0.l1.τ : Type := (Bool × Unit) ⊕ (Int × Int × Bool × Unit)
def Q0.l1.r (k : Nat) {ρ : Type} (x : Q0.l1.σ) (kn : Q0.l1.σ → Option ρ) (ke : Q0.l1.τ → Option ρ) : Option ρ :=
  let v6 : Int := (((List.length x.1) : Nat) : Int)
  bif (decide (x.2.2.2.2.1 < v6)) then ((Q0.l2 k k (x.1, (x.2.1, (x.2.2.1, (x.2.2.2.1, (x.2.2.2.2.1, ((0 : Int), ((x.2.2.2.2.2.1.1, (x.2.2.2.2.2.1.2.1, ())), ())))))))).bind fun t20 => (match t20 with
 | .inl t21 => (ke (.inl (t21.1, ())))
 | .inr (t22) => (let v23 : Int := (IntKind.wrap IntKind.i64 (t22.2.2.2.2.1 + (1 : Int)))
  kn (t22.1, (t22.2.1, (t22.2.2.1, (t22.2.2.2.1, (v23, ((t22.2.2.2.2.2.1.1, (t22.2.2.2.2.2.1.2.1, ())), ()))))))))) else (ke (.inr (x.2.1, (x.2.2.1, (x.2.2.2.1, ())))))
def Q0.l1 (k : Nat) : Nat → Q0.l1.σ → Option Q0.l1.τ := Q0o (Q0.l1.r k)
def Q0.l1.T : StT := ⟨us 1 ++ .dat Qgl :: .ptr 0 [] :: us 2 ++ .dat (.int .i64) :: .dat (.int .i64) :: .dat .bool :: .dat (.int .i64) :: us 81, [.dat Qgk]⟩
def Q0.l1.os : List Out := [⟨.ret, [.mask [4], .auto 0], ⟨us 4 ++ .dat .bool :: us 85, []⟩⟩, ⟨(.exit 0), [.mask [5, 6, 7], .auto 0], ⟨us 5 ++ .dat (.int .i64) :: .dat (.int .i64) :: .dat .bool :: us 82, []⟩⟩]
def Q0.c (k : Nat) {ρ : Type} (k_0 : Qgm) (ids : (List (List Int))) (K : Bool × Unit → Option ρ) : Option ρ :=
  (Q0.p0 k (ids, ((k_0.1, (k_0.2.1, ())), ()))).bind fun t2 => (Q0a k (t2.2.1.1, (t2.2.1.2.1, ())) t2.1).bind fun t3 => let v4 : Int := t3.1
  let v5 : Int := t3.2.1
  (Q0.l1 k k (t2.1, (v4, (v5, (t3.2.2.1, ((0 : Int), ((t2.2.1.1, (t2.2.1.2.1, ())), ()))))))).bind fun t24 => (match t24 with
 | .inl t25 => (K (t25.1, ()))
 | .inr (t26) => ((Qp k ).bind fun t27 => bif t27.1 then (bif (!t26.2.2.1) then (bif (t26.1 == (0 : Int)) then (K ((t26.2.1 == (0 : Int)), ())) else (K (false, ()))) else (K (false, ()))) else (K (false, ()))))
def Q0 (k : Nat) (k_0 : Qgm) (ids : (List (List Int))) : Option (Bool × Unit) := Q0.c k k_0 ids some
def Q0.tin : List Ty := [Qgk, Qgl]
def Q0.tout : List Ty := [.bool]
def Q0.sem (k : Nat) : QK := QR Q0.tin Q0.tout fun x => Q0 k x.1 x.2.1
noncomputable def Q0.ctx (k : Nat) : Ctx := ⟨Try.prog, gam [(30, (Q0a.sem k)), (31, (Ql.sem k)), (14, (Qp.sem k))]⟩
theorem Q0.gok (k : Nat) : ∀ f, Qz Try.prog f ((Q0.ctx k).Γ f) := (QA (Q0a.sem_ok k) (QA (Ql.sem_ok k) (QA (Qp.sem_ok k) Q03)))
theorem Q0.l2.round (k : Nat) : Q0s (Q0.ctx k) (QZ (Func.code Try.f6) [1, 1, 1, 0, 1, 0, 0, 1, 0, 0, 1, 0, 0]) (.nil) Q0.l2.T [.mask [1, 2, 5, 6, 7, 8, 9], .auto 0] Q0.l2.os (Q0.l2.r k) := by
 intro ρ x kn ke; kernel_rfl
theorem Q0.l2.ok (k : Nat) : StOK 0 Try.prog (.loop (QZ (Func.code Try.f6) [1, 1, 1, 0, 1, 0, 0, 1, 0, 0, 1, 0, 0])) (QE Q0.l2.T Q0.l2.os (Q0.l2 k k)) :=
 Q0u (C := Q0.ctx k) (Q0.gok k) Try.mix Q8.nil (by kernel_rfl) (by kernel_rfl) (by kernel_rfl) (Q0.l2.round k) k
theorem Q0.l1.round (k : Nat) : Q0s (Q0.ctx k) (QZ (Func.code Try.f6) [1, 1, 1, 0, 1, 0, 0]) (.node [] none (.nil) (.node [] none (.node [] none (.node [] none (.nil) (.node [] none (.node [.mask [1, 2, 5, 6, 7, 8, 9], .auto 0] (some (QE Q0.l2.T Q0.l2.os (Q0.l2 k k))) .nil .nil) (.nil))) (.nil)) (.nil))) Q0.l1.T [.mask [1, 2, 5, 6, 7, 8], .auto 0] Q0.l1.os (Q0.l1.r k) := by
 intro ρ x kn ke; kernel_rfl
theorem Q0.l1.ok (k : Nat) : StOK 0 Try.prog (.loop (QZ (Func.code Try.f6) [1, 1, 1, 0, 1, 0, 0])) (QE Q0.l1.T Q0.l1.os (Q0.l1 k k)) :=
 Q0u (C := Q0.ctx k) (Q0.gok k) Try.mix (Q8.seq Q8.nil (Q8.seq (Q8.block (Q8.seq Q8.nil (Q8.block (Q8.loop (by kernel_rfl) (Q0.l2.ok k))))) Q8.nil)) (by kernel_rfl) (by kernel_rfl) (by kernel_rfl) (Q0.l1.round k) k
theorem Q0.p0.is (k : Nat) : Q2B (Q0.ctx k) (QZ (Func.code Try.f6) [1, 0]) (.nil) Q0.p0.T Q0.p0.os (Q0.p0.r k) := by
 intro ρ x K; kernel_rfl
theorem Q0.p0.ok (k : Nat) : StOK 0 Try.prog (QZ (Func.code Try.f6) [1, 0]) (QE Q0.p0.T Q0.p0.os (Q0.p0 k)) :=
 Q2r (C := Q0.ctx k) (T := Q0.p0.T) (os := Q0.p0.os) (Q0.gok k) Try.mix (fun x K => Q0.p0.r k x K) Q8.nil (by kernel_rfl) (by kernel_rfl) (Q0.p0.is k)
def Q0.ann (k : Nat) : Ann := .node [] none (.nil) (.node [] none (.node [.mask [1, 2], .auto 0] (some (QE Q0.p0.T Q0.p0.os (Q0.p0 k))) .nil .nil) (.node [] none (.nil) (.node [] none (.node [] none (.nil) (.node [] none (.node [.mask [1, 2, 5, 6, 7, 8], .auto 0] (some (QE Q0.l1.T Q0.l1.os (Q0.l1 k k))) .nil .nil) (.nil))) (.nil))))
theorem Q0.body (k : Nat) : Q0t (Q0.ctx k) Try.f6 (Func.code Try.f6) (Q0.ann k) Q0.tin Q0.tout (fun x K => Q0.c k x.1 x.2.1 K) := by
 intro ρ x K; kernel_rfl
theorem Q0.sem_ok (k : Nat) : Qz Try.prog 6 (Q0.sem k) :=
 QT (C := Q0.ctx k) (Q0.gok k) Try.mix (c := Func.code Try.f6) (ann := Q0.ann k) (tin := Q0.tin) (tout := Q0.tout) (fun x K => Q0.c k x.1 x.2.1 K) Try.func6 (by kernel_rfl) (by kernel_rfl) (Q8.seq Q8.nil (Q8.seq (Q8.loop (by kernel_rfl) (Q0.p0.ok k)) (Q8.seq Q8.nil (Q8.seq (Q8.seq Q8.nil (Q8.block (Q8.loop (by kernel_rfl) (Q0.l1.ok k)))) Q8.nil)))) (Q0.body k)
end Go.Am
namespace Go.Am
open Go
def r64 (x : Int) : Prop := 0 ≤ x ∧ x ≤ 18446744073709551615
theorem Q1c (x y : Int) : r64 (Qw .xor .u64 x y) := by
 unfold r64
 simp only [Qw]
 rw [Q3e]; omega
theorem QdK (x y : Int) : r64 (Qw .or .u64 x y) := by
 unfold r64
 simp only [Qw]
 rw [Q3e]; omega
theorem Q7U (x : Int) : r64 (IntKind.u64.wrap x) := by
 unfold r64
 rw [Q3e]; omega
def rotl (x n : Int) : Int := Qw .or .u64 (Q1H .u64 x n) (Q10 .u64 x (64 - n))
theorem Qel (x : Int) {j : Nat} (hj : j ≤ 64) : Q1H .u64 x (j : Int) = (x * 2 ^ j) % 18446744073709551616 := by
 unfold Q1H
 rw [show min (j : Int).toNat IntKind.u64.bits = j by simp [IntKind.bits]; omega, Q3e]
def rotV (x : Int) (n : Nat) : Int := (x * 2 ^ n) % 18446744073709551616 + x / 2 ^ (64 - n)
theorem QaT {x : Int} (hx : r64 x) {n : Nat} (hn : n ≤ 64) : rotl x (n : Int) = rotV x n := by
 obtain ⟨X, rfl⟩ := Int.eq_ofNat_of_zero_le hx.1
 have hX : X < 2 ^ 64 := by have := hx.2; omega
 have hsplit : 2 ^ (64 - n) * 2 ^ n = 2 ^ 64 := by rw [← Nat.pow_add]; congr 1; omega
 unfold rotl rotV
 rw [Qel _ hn, show (64 : Int) - (n : Int) = ((64 - n : Nat) : Int) by omega, Q9o (by omega), Q5M]
 have e1 : ((X : Int) * 2 ^ n) % 18446744073709551616 = ((X % 2 ^ (64 - n) * 2 ^ n : Nat) : Int) := by
  have : X * 2 ^ n % 2 ^ 64 = X % 2 ^ (64 - n) * 2 ^ n := by rw [← hsplit, Nat.mul_mod_mul_right]
  rw [← this]
  simp
 have e2 : (X : Int) / 2 ^ (64 - n) = ((X / 2 ^ (64 - n) : Nat) : Int) := by simp
 have hA : X / 2 ^ (64 - n) < 2 ^ n := by
  rw [Nat.div_lt_iff_lt_mul (Nat.two_pow_pos _), Nat.mul_comm, hsplit]; exact hX
 have hB : X % 2 ^ (64 - n) < 2 ^ (64 - n) := Nat.mod_lt _ (Nat.two_pow_pos _)
 have hlt : X % 2 ^ (64 - n) * 2 ^ n + X / 2 ^ (64 - n) < 18446744073709551616 := by
  have h1 : (X % 2 ^ (64 - n) + 1) * 2 ^ n ≤ 2 ^ (64 - n) * 2 ^ n := Nat.mul_le_mul_right _ hB
  rw [Nat.add_mul, hsplit] at h1
  omega
 rw [e1, e2, Qdt hA hlt]
 simp
theorem Qeu {X P Q : Nat} (hPQ : P * Q = 9223372036854775808) (hX : X < 18446744073709551616) :
  (X * P % 18446744073709551616 + X / (2 * Q)) * 2 % 18446744073709551616 + (X * P % 18446744073709551616 + X / (2 * Q)) / 9223372036854775808 = X * (2 * P) % 18446744073709551616 + X / Q := by
 have hQ : 0 < Q := Nat.pos_of_ne_zero fun h => by subst h; simp at hPQ
 have h1 := Nat.div_add_mod X (2 * Q)
 have h2 := Nat.div_add_mod (X % (2 * Q)) Q
 have h3 : X % (2 * Q) < 2 * Q := Nat.mod_lt _ (by omega)
 have h4 : X % (2 * Q) % Q < Q := Nat.mod_lt _ hQ
 generalize X / (2 * Q) = a at *
 generalize X % (2 * Q) = b at *
 generalize hc : b / Q = c at *
 generalize b % Q = d at *
 have hc2 : c < 2 := by rw [← hc, Nat.div_lt_iff_lt_mul hQ]; omega
 have e1 : X * P = a * 18446744073709551616 + c * 9223372036854775808 + d * P := by
  rw [← h1, ← h2, ← show P * Q * 2 = 18446744073709551616 by omega, ← hPQ]
  simp only [Nat.add_mul, Nat.mul_add]
  have x1 : 2 * Q * a * P = a * (P * Q * 2) := by rw [Nat.mul_comm a, Nat.mul_assoc (2 * Q), Nat.mul_comm a P, ← Nat.mul_assoc]; congr 1; rw [Nat.mul_comm 2 Q, Nat.mul_assoc, Nat.mul_comm 2 P, ← Nat.mul_assoc, Nat.mul_comm Q P]
  have x2 : Q * c * P = c * (P * Q) := by rw [Nat.mul_comm Q c, Nat.mul_assoc, Nat.mul_comm Q P]
  omega
 have e2 : X * (2 * P) = 2 * (X * P) := by rw [Nat.mul_left_comm]
 have e3 : X / Q = 2 * a + c := by
  have : X = d + Q * (2 * a + c) := by
   rw [Nat.mul_add, ← Nat.mul_assoc, Nat.mul_comm Q 2]; omega
  rw [this, Nat.add_mul_div_left _ _ hQ, Nat.div_eq_of_lt h4]; omega
 have e4 : d * P + a < 9223372036854775808 := by
  have g1 : (d + 1) * P ≤ Q * P := Nat.mul_le_mul_right _ h4
  have g2 : a < P := by
   apply Nat.lt_of_mul_lt_mul_left (a := 2 * Q)
   have : 2 * Q * P = 18446744073709551616 := by rw [Nat.mul_assoc, Nat.mul_comm Q P]; omega
   omega
  rw [Nat.add_mul, Nat.mul_comm Q P] at g1
  omega
 rw [e2, e3]
 generalize X * P = y at *
 generalize d * P = z at *
 have m1 : y % 18446744073709551616 = c * 9223372036854775808 + z := by omega
 have m2 : (c * 9223372036854775808 + z + a) / 9223372036854775808 = c := by omega
 have m3 : (c * 9223372036854775808 + z + a) * 2 % 18446744073709551616 = 2 * (z + a) := by omega
 have m4 : 2 * y % 18446744073709551616 = 2 * z := by omega
 rw [m1, m2, m3, m4]
 omega
theorem QcV {x : Int} (h : r64 x) {i : Nat} (hi : i < 64) : (rotV x i * 2) % 18446744073709551616 + rotV x i / 2 ^ 63 = rotV x (i + 1) := by
 obtain ⟨X, rfl⟩ := Int.eq_ofNat_of_zero_le h.1
 have hx2 := h.2
 have hpq : 2 ^ i * 2 ^ (63 - i) = 9223372036854775808 := by rw [← Nat.pow_add, show i + (63 - i) = 63 by omega]
 have := Qeu (X := X) hpq (by omega)
 have e : 2 * 2 ^ (63 - i) = 2 ^ (64 - i) := by rw [← Nat.pow_succ', show (63 - i).succ = 64 - i by omega]
 have e' : 2 * 2 ^ i = 2 ^ (i + 1) := by rw [← Nat.pow_succ']
 rw [e, e'] at this
 unfold rotV
 rw [show 64 - (i + 1) = 63 - i by omega]
 have g := congrArg (Int.ofNat) this
 simpa using g
theorem Q7X {x : Int} (h : r64 x) {i : Nat} (hi : i ≤ 32) : r64 (rotV x i) := by
 rw [← QaT h (by omega)]; exact QdK _ _
theorem Q1I {k : Nat} (hk : 33 ≤ k) {x : Int} (h : r64 x) {n : Nat} (hn : n ≤ 32) : Qa k x (n : Int) = some (rotl x (n : Int), ()) := by
 unfold Qa Qa.c
 have hl : Qa.l0 k k (x, (n : Int), (0 : Int), ()) = some (rotV x n, ()) := by
  have e0 : rotV x 0 = x := by
   unfold rotV
   have h1 := h.1
   have h2 := h.2
   simp only [Int.reducePow, Nat.reduceSub]
   omega
  have := Q0f (r := Qa.l0.r k) (fun i => (rotV x i, (n : Int), (i : Int), ())) n (rotV x n, ()) ?_ ?_ (by omega : n < k)
  ·rw [e0] at this
   exact this
  ·intro i hi kn ke
   simp only [Qa.l0.r]
   have hr := Q7X h (i := i) (by omega)
   have hs := QcV h (i := i) (by omega)
   have hr2 := Q7X h (i := i + 1) (by omega)
   have ew : IntKind.u64.wrap (IntKind.u64.wrap (rotV x i * 2) + Q10 .u64 (rotV x i) 63) = rotV x (i + 1) := by
    rw [show (63 : Int) = ((63 : Nat) : Int) from rfl, Q9o (by omega), Q3e (rotV x i * 2), hs, u64_in hr2]
   rw [QF (by omega), ew, i64_in (by omega)]
   rfl
  ·intro kn ke
   simp only [Qa.l0.r]
   rw [Q0z (by omega)]
 rw [hl, QaT h (by omega)]
 rfl
def Q3W : List Int → List Int
 | [a, b, c, d] =>
  let a1 := IntKind.u64.wrap (a + b)
  let b1 := Qw .xor .u64 (rotl b 13) a1
  let a2 := rotl a1 32
  let c1 := IntKind.u64.wrap (c + d)
  let d1 := Qw .xor .u64 (rotl d 16) c1
  let a3 := IntKind.u64.wrap (a2 + d1)
  let d2 := Qw .xor .u64 (rotl d1 21) a3
  let c2 := IntKind.u64.wrap (c1 + b1)
  let b2 := Qw .xor .u64 (rotl b1 17) c2
  [a3, b2, rotl c2 32, d2]
 | l => l
def W4 (v : List Int) : Prop := ∃ a b c d, v = [a, b, c, d] ∧ r64 a ∧ r64 b ∧ r64 c ∧ r64 d
theorem Q0J {v : List Int} (h : W4 v) : W4 (Q3W v) := by
 obtain ⟨a, b, c, d, rfl, ha, hb, hc, hd⟩ := h
 exact ⟨_, _, _, _, rfl, Q7U _, Q1c _ _, QdK _ _, Q1c _ _⟩
theorem Q5l {v : List Int} (h : W4 v) (i : Nat) {x : Int} (hx : r64 x) : W4 (v.set i x) := by
 obtain ⟨a, b, c, d, rfl, ha, hb, hc, hd⟩ := h
 match i with
 | 0 => exact ⟨_, _, _, _, rfl, hx, hb, hc, hd⟩
 | 1 => exact ⟨_, _, _, _, rfl, ha, hx, hc, hd⟩
 | 2 => exact ⟨_, _, _, _, rfl, ha, hb, hx, hd⟩
 | 3 => exact ⟨_, _, _, _, rfl, ha, hb, hc, hx⟩
 | i + 4 => exact ⟨_, _, _, _, rfl, ha, hb, hc, hd⟩
set_option maxRecDepth 100000 in
theorem QaF (k : Nat) (x : Int) : Qi k x 13 = some (rotl x 13, ()) ∧ Qi k x 16 = some (rotl x 16, ()) ∧ Qi k x 17 = some (rotl x 17, ()) ∧ Qi k x 21 = some (rotl x 21, ()) ∧ Qi k x 32 = some (rotl x 32, ()) :=
 ⟨by kernel_rfl, by kernel_rfl, by kernel_rfl, by kernel_rfl, by kernel_rfl⟩
theorem Q1B (k : Nat) {v : List Int} (h : W4 v) : Q02 k v = some (Q3W v, ()) := by
 obtain ⟨a, b, c, d, rfl, ha, hb, hc, hd⟩ := h
 unfold Q02 Q02.c
 simp only [List.set_cons_zero, List.set_cons_succ, List.getD_cons_zero, List.getD_cons_succ, (QaF k _).1, (QaF k _).2.1, (QaF k _).2.2.1, (QaF k _).2.2.2.1, (QaF k _).2.2.2.2, Option.bind_some]
 rfl
theorem Q1f {k : Nat} (hk : 33 ≤ k) {v : List Int} (h : W4 v) : Qn k v = some (Q3W v, ()) := by
 obtain ⟨a, b, c, d, rfl, ha, hb, hc, hd⟩ := h
 unfold Qn Qn.c
 simp only [List.set_cons_zero, List.set_cons_succ, List.getD_cons_zero, List.getD_cons_succ]
 have t13 : ∀ {x : Int}, r64 x → Qa k x 13 = some (rotl x 13, ()) := fun hx => Q1I hk hx (n := 13) (by omega)
 have t16 : ∀ {x : Int}, r64 x → Qa k x 16 = some (rotl x 16, ()) := fun hx => Q1I hk hx (n := 16) (by omega)
 have t17 : ∀ {x : Int}, r64 x → Qa k x 17 = some (rotl x 17, ()) := fun hx => Q1I hk hx (n := 17) (by omega)
 have t21 : ∀ {x : Int}, r64 x → Qa k x 21 = some (rotl x 21, ()) := fun hx => Q1I hk hx (n := 21) (by omega)
 have t32 : ∀ {x : Int}, r64 x → Qa k x 32 = some (rotl x 32, ()) := fun hx => Q1I hk hx (n := 32) (by omega)
 rw [t13 hb]
 simp only [Option.bind_some]
 rw [t32 (Q7U _)]
 simp only [Option.bind_some]
 rw [t16 hd]
 simp only [Option.bind_some]
 rw [t21 (Q1c _ _)]
 simp only [Option.bind_some]
 rw [t17 (Q1c _ _)]
 simp only [Option.bind_some]
 rw [t32 (Q7U _)]
 rfl
def mixS (v : List Int) (m : Int) : List Int :=
 let w := Q3W (Q3W (v.set 3 (Qw .xor .u64 (v.getD 3 0) m)))
 w.set 0 (Qw .xor .u64 (w.getD 0 0) m)
theorem Q9K {v : List Int} (h : W4 v) (m : Int) : W4 (mixS v m) := Q5l (Q0J (Q0J (Q5l h 3 (Q1c _ _)))) 0 (Q1c _ _)
def mixN (v l : List Int) : Nat → List Int
 | 0 => v
 | n + 1 => mixS (mixN v l n) (leI ((l.drop (8 * n)).take 8))
theorem Q3S {v : List Int} (h : W4 v) (l : List Int) : ∀ n, W4 (mixN v l n)
 | 0 => h
 | n + 1 => Q9K (Q3S h l n) _
theorem Q4D (v a b : List Int) : ∀ n, 8 * n ≤ a.length → mixN v (a ++ b) n = mixN v a n
 | 0, _ => rfl
 | n + 1, h => by
  simp only [mixN]
  rw [Q4D v a b n (by omega), List.drop_append_of_le_length (by omega), List.take_append_of_le_length (by rw [List.length_drop]; omega)]
theorem Qa5 (v l : List Int) (q : Nat) : ∀ j, mixN v l (q + j) = mixN (mixN v l q) (l.drop (8 * q)) j
 | 0 => rfl
 | j + 1 => by
  show mixS (mixN v l (q + j)) (leI ((l.drop (8 * (q + j))).take 8)) = mixS (mixN (mixN v l q) (l.drop (8 * q)) j) (leI (((l.drop (8 * q)).drop (8 * j)).take 8))
  rw [Qa5 v l q j, List.drop_drop, show 8 * q + 8 * j = 8 * (q + j) by omega]
theorem Q0Q {l : List Int} (h : Q0h l) (a b : Nat) : (bytesOf l).extract a b = bytesOf ((l.drop a).take (b - a)) := by
 apply Q3b
 rw [Q2u, Q09 h, Q09]
 intro x hx
 exact h x (List.mem_of_mem_drop (List.mem_of_mem_take hx))
theorem Q5N {k : Nat} (hk : 9 ≤ k) {v : List Int} (h : W4 v) {l : List Int} (hl : Q0h l) (h8 : l.length = 8) : Q05 k v (bytesOf l) = some (mixS v (leI l), ()) := by
 unfold Q05 Q05.c
 rw [show QD k (bytesOf l) = some ((bytesOf l, 0, 0, ()), ()) from rfl]
 simp only [Option.bind_some]
 have hs : (bytesOf l).size = 8 := by rw [QQ, h8]
 have hn : numS (bytesOf l, 0, 0, ()) 8 = leI l := by
  unfold numS Q1L
  dsimp only
  rw [if_neg (by simp), if_neg (by omega), if_neg (by omega)]
  dsimp only
  rw [show ((0 : Int)).toNat = 0 from rfl, show ((0 : Int) + 8).toNat = 8 from rfl, Q0Q hl, List.drop_zero, List.take_of_length_le (by omega), Q09 hl]
 rw [Qe0 hk ⟨by dsimp only; omega, by dsimp only; omega, by dsimp only; omega⟩, hn]
 simp only [Option.bind_some]
 rw [Q1B k (Q5l h 3 (Q1c _ _))]
 simp only [Option.bind_some]
 rw [Q1B k (Q0J (Q5l h 3 (Q1c _ _)))]
 rfl
end Go.Am
namespace Go.Am
open Go
def sh (a : List Int) : List Int := a.drop (8 * (a.length / 8))
theorem Q2H (a : List Int) : (sh a).length = a.length % 8 := by
 unfold sh; rw [List.length_drop]; omega
theorem Qf1 {a : List Int} (h : Q0h a) : Q0h (sh a) := fun x hx => h x (List.mem_of_mem_drop hx)
abbrev SipT : Type := List Int × ByteArray × Int × Unit
def SP (v a : List Int) : SipT := (mixN v a (a.length / 8), bytesOf (sh a), (a.length : Int), ())
theorem Q0Y {a b : List Int} (ha : Q0h a) (hb : Q0h b) : Q0h (a ++ b) := fun x hx => (List.mem_append.1 hx).elim (ha x) (hb x)
theorem Q6J (n : Nat) : Q0h (List.replicate n 0) := fun x hx => by have := List.eq_of_mem_replicate hx; omega
theorem Q8v (v a b : List Int) : mixN (mixN v a (a.length / 8)) (sh a ++ b) ((sh a ++ b).length / 8) = mixN v (a ++ b) ((a ++ b).length / 8) ∧ (sh a ++ b).drop (8 * ((sh a ++ b).length / 8)) = sh (a ++ b) := by
 have e : sh a ++ b = (a ++ b).drop (8 * (a.length / 8)) := by unfold sh; rw [List.drop_append_of_le_length (by omega)]
 have hl := Q2H a
 have hn : a.length / 8 + (sh a ++ b).length / 8 = (a ++ b).length / 8 := by simp only [List.length_append, hl]; omega
 constructor
 ·rw [← hn, Qa5, Q4D v a b _ (by omega), ← e]
 ·show (sh a ++ b).drop _ = (a ++ b).drop (8 * ((a ++ b).length / 8))
  rw [← hn, Nat.mul_add, ← List.drop_drop, ← e]
theorem QaI (k : Nat) (hk : 9 ≤ k) {v l : List Int} (hv : W4 v) (hl : Q0h l) (h : ByteArray) (n : Int) {fuel : Nat} (hf : l.length / 8 < fuel) (hm : l.length ≤ 9223372036854775807) :
  Qk.l0 k fuel (bytesOf l, (v, h, n, ()), ()) = some (bytesOf (l.drop (8 * (l.length / 8))), (mixN v l (l.length / 8), h, n, ()), ()) := by
 refine Q0f (r := Qk.l0.r k) (fun i => (bytesOf (l.drop (8 * i)), (mixN v l i, h, n, ()), ())) (l.length / 8) _ ?_ ?_ hf
 ·intro i hi kn ke
  simp only [Qk.l0.r]
  have hd : Q0h (l.drop (8 * i)) := fun x hx => hl x (List.mem_of_mem_drop hx)
  have hs : (bytesOf (l.drop (8 * i))).size = l.length - 8 * i := by rw [QQ, List.length_drop]
  rw [QF (by omega), QF (by omega), Q0Q hd, List.drop_zero, Q5N hk (Q3S hv l i) (fun x hx => hd x (List.mem_of_mem_take hx)) (by rw [List.length_take, List.length_drop]; omega)]
  simp only [Option.bind_some]
  rw [QF (by omega), Q0Q hd, List.drop_drop, List.take_of_length_le (by rw [List.length_drop]; omega)]
  rfl
 ·intro kn ke
  simp only [Qk.l0.r]
  have hs : (bytesOf (l.drop (8 * (l.length / 8)))).size = l.length - 8 * (l.length / 8) := by rw [QQ, List.length_drop]
  rw [Q0z (by omega)]
theorem QcW {k : Nat} (hk : 9 ≤ k) {v a : List Int} (hv : W4 v) (ha : Q0h a) {s : ByteArray} (hs : a.length + s.size ≤ 140737488355328) (hf : s.size / 8 + 2 < k) :
  Qk k s (SP v a) = some (SP v (a ++ Qj s), ()) := by
 unfold Qk Qk.c SP
 dsimp only
 have hh := Q2H a
 have hz := Q04 s
 rw [Q0l (Q16 (by rw [QQ]; omega)), i64_in (by omega)]
 have e : bytesOf (sh a) ++ s = bytesOf (sh a ++ Qj s) := by rw [← Q11, Q43]
 have hin : Q0h (sh a ++ Qj s) := Q0Y (Qf1 ha) (Q15 s)
 rw [e, QaI k hk (Q3S hv a _) hin _ _ (by rw [List.length_append]; omega) (by rw [List.length_append]; omega)]
 simp only [Option.bind_some]
 rw [(Q8v v a (Qj s)).1, (Q8v v a (Qj s)).2]
 unfold QS QS.c stringslite_Clone Q8i
 have hl2 := Q2H (a ++ Qj s)
 rw [Q0l (Q16 (by rw [QQ]; omega))]
 simp only [Option.bind_some]
 rw [show (a.length : Int) + (s.size : Int) = ((a ++ Qj s).length : Int) by rw [List.length_append, hz]; omega]
def finS (v : List Int) : Int :=
 let w := Q3W (Q3W (Q3W (Q3W (v.set 2 (Qw .xor .u64 (v.getD 2 0) 255)))))
 Qw .xor .u64 (Qw .xor .u64 (Qw .xor .u64 (w.getD 0 0) (w.getD 1 0)) (w.getD 2 0)) (w.getD 3 0)
def Q49 (a : List Int) : List Int := sh a ++ List.replicate (7 - (sh a).length) 0 ++ [IntKind.u8.wrap (a.length : Int)]
theorem Q9v (a : List Int) : (Q49 a).length = 8 := by
 have := Q2H a
 unfold Q49
 simp only [List.length_append, List.length_replicate, List.length_singleton]; omega
theorem Qdl {a : List Int} (h : Q0h a) : Q0h (Q49 a) := by
 refine Q0Y (Q0Y (Qf1 h) (Q6J _)) ?_
 intro x hx
 simp only [List.mem_singleton] at hx
 rw [hx, Q6F]; omega
def sumS (v a : List Int) : Int := finS (mixS (mixN v a (a.length / 8)) (leI (Q49 a)))
theorem QaZ (v a : List Int) : r64 (sumS v a) := Q1c _ _
theorem Qed (n : Nat) : repB ⟨List.toArray [0]⟩ (n : Int) = bytesOf (List.replicate n 0) := by
 unfold repB bytesOf
 congr 1
 have : ∀ m, Lib.repeatL [(0 : UInt8)] m = List.replicate m 0 := by
  intro m
  induction m with
  | zero => rfl
  | succ m ih => simp [Lib.repeatL, ih, List.replicate_succ]
 rw [show (n : Int).toNat = n by omega]
 show (Lib.repeatL [(0 : UInt8)] n).toArray = _
 rw [this]
 simp
theorem Qer {k : Nat} (hk : 9 ≤ k) {v a : List Int} (hv : W4 v) (ha : Q0h a) (hs : a.length ≤ 140737488355328) : QX k (SP v a) = some (sumS v a, SP v a, ()) := by
 unfold QX QX.c SP
 dsimp only
 have hh := Q2H a
 rw [QQ, i64_in (by omega), show (7 : Int) - ((sh a).length : Int) = ((7 - (sh a).length : Nat) : Int) by omega]
 have hrep : strings_Repeat k (⟨(List.toArray [0])⟩ : ByteArray) ((7 - (sh a).length : Nat) : Int) = some (bytesOf (List.replicate (7 - (sh a).length) 0), ()) := by
  unfold strings_Repeat repJ
  rw [Qed]
  have : (⟨(List.toArray [0])⟩ : ByteArray).size = 1 := rfl
  rw [this, Q0l]
  simp only [Bool.and_eq_true, decide_eq_true_eq, Nat.ble_eq]
  omega
 rw [hrep]
 simp only [Option.bind_some]
 rw [Q0l (Q16 (by rw [QQ, List.length_replicate]; omega)), Q11]
 have e1 : bytesOf (List.set (List.replicate 1 (0 : Int)) 0 (IntKind.u8.wrap (a.length : Int))) = bytesOf [IntKind.u8.wrap (a.length : Int)] := rfl
 rw [e1, Q0l (Q16 (by rw [QQ, QQ, List.length_append, List.length_replicate, List.length_singleton]; omega)), Q11]
 have hw := Q9K (Q3S hv a (a.length / 8)) (leI (Q49 a))
 rw [show sh a ++ List.replicate (7 - (sh a).length) 0 ++ [IntKind.u8.wrap (a.length : Int)] = Q49 a from rfl, Q5N hk (Q3S hv a _) (Qdl ha) (Q9v a)]
 simp only [Option.bind_some]
 have h2 := Q5l hw 2 (Q1c ((mixS (mixN v a (a.length / 8)) (leI (Q49 a))).getD 2 0) 255)
 rw [Q1B k h2]
 simp only [Option.bind_some]
 rw [Q1B k (Q0J h2)]
 simp only [Option.bind_some]
 rw [Q1B k (Q0J (Q0J h2))]
 simp only [Option.bind_some]
 rw [Q1B k (Q0J (Q0J (Q0J h2)))]
 rfl
def kv (k0 k1 : Int) : List Int := [Qw .xor .u64 k0 8317987319222330741, Qw .xor .u64 k1 7237128888997146477, Qw .xor .u64 k0 7816392313619706465, Qw .xor .u64 k1 8387220255154660723]
theorem Qcb (k0 k1 : Int) : W4 (kv k0 k1) := ⟨_, _, _, _, rfl, Q1c _ _, Q1c _ _, Q1c _ _, Q1c _ _⟩
theorem QbM (k : Nat) (k0 k1 : Int) : Q0n k (k0, k1, ()) = some (SP (kv k0 k1) [], ()) := rfl
def Qc3 (k0 k1 : Int) (s : ByteArray) : Int := sumS (kv k0 k1) (Qj s)
theorem Q6P {k : Nat} (hk : 9 ≤ k) (k0 k1 : Int) {s : ByteArray} (hs : s.size ≤ 140737488351232) (hf : s.size / 8 + 2 < k) : Q06 k (k0, k1, ()) s = some (Qc3 k0 k1 s, ()) := by
 unfold Q06 Q06.c
 rw [QbM]
 simp only [Option.bind_some]
 show (Qk k s (SP (kv k0 k1) [])).bind _ = _
 rw [QcW hk (Qcb k0 k1) (fun x hx => by simp at hx) (by simp only [List.length_nil]; omega) hf]
 simp only [Option.bind_some, List.nil_append]
 show (QX k (SP (kv k0 k1) (Qj s))).bind _ = _
 rw [Qer hk (Qcb k0 k1) (Q15 s) (by rw [Q04]; omega)]
 rfl
set_option maxRecDepth 100000 in
theorem QdX : (sumS (kv 506097522914230528 1084818905618843912) [] == 8246050544436514353) = true := by kernel_rfl
theorem Q7r {k : Nat} (hk : 9 ≤ k) : Qp k = some (true, ()) := by
 unfold Qp Qp.c
 rw [Q6P hk _ _ (by decide) (by have : (⟨(List.toArray [])⟩ : ByteArray).size = 0 := rfl; omega)]
 simp only [Option.bind_some]
 show some ((sumS (kv 506097522914230528 1084818905618843912) [] == 8246050544436514353), ()) = _
 rw [QdX]
theorem Qei (k : Nat) (s : ByteArray) (hs : s.size ≤ 140737488351232) (v : List Int) {fuel : Nat} (hf : 8 < fuel) :
  Q5.l0 k fuel (s, s, v, ()) = some (s, bytesOf (Qj s ++ List.replicate (7 - s.size % 8) 0), v, ()) := by
 have hz := Q04 s
 have := Q0f (r := Q5.l0.r k) (fun i => (s, bytesOf (Qj s ++ List.replicate i 0), v, ())) (7 - s.size % 8) (s, bytesOf (Qj s ++ List.replicate (7 - s.size % 8) 0), v, ()) ?_ ?_ (fuel := fuel) (by omega)
 ·have e0 : bytesOf (Qj s ++ List.replicate 0 0) = s := by rw [List.replicate_zero, List.append_nil, Q43]
  rw [e0] at this
  exact this
 ·intro i hi kn ke
  simp only [Q5.l0.r]
  have hsz : (bytesOf (Qj s ++ List.replicate i 0)).size = s.size + i := by rw [QQ, List.length_append, List.length_replicate, hz]
  rw [hsz, Int.tmod_eq_emod_of_nonneg (by omega)]
  have hne : (((s.size + i : Nat) : Int) % 8 != 7) = true := by
   rw [bne_iff_ne]; omega
  rw [Q0l hne, Q0l (Q16 (by omega))]
  have e : bytesOf (Qj s ++ List.replicate i 0) ++ (⟨(List.toArray [0])⟩ : ByteArray) = bytesOf (Qj s ++ List.replicate (i + 1) 0) := by
   rw [show (⟨(List.toArray [0])⟩ : ByteArray) = bytesOf [0] from rfl, Q11, List.append_assoc, ← List.replicate_succ']
  rw [e]
 ·intro kn ke
  simp only [Q5.l0.r]
  have hsz : (bytesOf (Qj s ++ List.replicate (7 - s.size % 8) 0)).size = s.size + (7 - s.size % 8) := by rw [QQ, List.length_append, List.length_replicate, hz]
  rw [hsz, Int.tmod_eq_emod_of_nonneg (by omega)]
  have hne : (((s.size + (7 - s.size % 8) : Nat) : Int) % 8 != 7) = false := by
   rw [bne_eq_false_iff_eq]; omega
  rw [Q6S hne]
theorem Qef {k : Nat} (hk : 33 ≤ k) {v l : List Int} (hv : W4 v) (hl : Q0h l) (h8 : l.length % 8 = 0) (hs : l.length ≤ 140737488355328) {fuel : Nat} (hf : l.length / 8 < fuel) :
  Q5.l1 k fuel (bytesOf l, (0 : Int), v, ()) = some (mixN v l (l.length / 8), ()) := by
 refine Q0f (r := Q5.l1.r k) (fun i => (bytesOf l, ((8 * i : Nat) : Int), mixN v l i, ())) (l.length / 8) _ ?_ ?_ hf
 ·intro i hi kn ke
  simp only [Q5.l1.r]
  have hsz := QQ l
  rw [QF (by omega), i64_in (by omega), QF (by omega), Q0Q hl, show (((8 * i : Nat) : Int) + 8).toNat - ((8 * i : Nat) : Int).toNat = 8 by omega, show ((8 * i : Nat) : Int).toNat = 8 * i by omega]
  have hin : Q0h ((l.drop (8 * i)).take 8) := fun x hx => hl x (List.mem_of_mem_drop (List.mem_of_mem_take hx))
  have hlen : ((l.drop (8 * i)).take 8).length = 8 := by rw [List.length_take, List.length_drop]; omega
  rw [Q19 (by omega) _ (by rw [QQ]; omega), Q09 hin]
  simp only [Option.bind_some]
  have hw := Q5l (Q3S hv l i) 3 (Q1c ((mixN v l i).getD 3 0) (leI ((l.drop (8 * i)).take 8)))
  rw [Q1f hk hw]
  simp only [Option.bind_some]
  rw [Q1f hk (Q0J hw)]
  simp only [Option.bind_some]
  rw [show ((8 * i : Nat) : Int) + 8 = ((8 * (i + 1) : Nat) : Int) by omega]
  rfl
 ·intro kn ke
  simp only [Q5.l1.r]
  rw [QQ, Q0z (by omega)]
theorem Q8D {k : Nat} (hk : 33 ≤ k) (k0 k1 : Int) {s : ByteArray} (hs : s.size ≤ 140737488351232) (hf : s.size / 8 + 2 < k) : Q5 k k0 k1 s = some (Qc3 k0 k1 s, ()) := by
 unfold Q5 Q5.c
 have hz := Q04 s
 show (Q5.l0 k k (s, s, kv k0 k1, ())).bind _ = _
 rw [Qei k s hs _ (by omega)]
 simp only [Option.bind_some]
 have e1 : bytesOf (List.set (List.replicate 1 (0 : Int)) 0 (IntKind.u8.wrap (s.size : Int))) = bytesOf [IntKind.u8.wrap (s.size : Int)] := rfl
 rw [e1, Q0l (Q16 (by rw [QQ, QQ, List.length_append, List.length_replicate, List.length_singleton]; omega)), Q11]
 have e2 : Qj s ++ List.replicate (7 - s.size % 8) 0 ++ [IntKind.u8.wrap (s.size : Int)] = Qj s ++ (List.replicate (7 - s.size % 8) 0 ++ [IntKind.u8.wrap (s.size : Int)]) := List.append_assoc _ _ _
 have hb : Q0h (Qj s ++ (List.replicate (7 - s.size % 8) 0 ++ [IntKind.u8.wrap (s.size : Int)])) := by
  refine Q0Y (Q15 s) (Q0Y (Q6J _) ?_)
  intro x hx
  simp only [List.mem_singleton] at hx
  rw [hx, Q6F]; omega
 have hlen : (Qj s ++ (List.replicate (7 - s.size % 8) 0 ++ [IntKind.u8.wrap (s.size : Int)])).length = 8 * (s.size / 8 + 1) := by
  simp only [List.length_append, List.length_replicate, List.length_singleton]; omega
 rw [e2, Qef hk (Qcb k0 k1) hb (by omega) (by omega) (by omega), hlen, Nat.mul_div_cancel_left _ (by omega)]
 have e3 : mixN (kv k0 k1) (Qj s ++ (List.replicate (7 - s.size % 8) 0 ++ [IntKind.u8.wrap (s.size : Int)])) (s.size / 8 + 1) = mixS (mixN (kv k0 k1) (Qj s) ((Qj s).length / 8)) (leI (Q49 (Qj s))) := by
  simp only [mixN]
  rw [Q4D _ _ _ _ (by omega), hz]
  congr 2
  unfold Q49
  rw [Q2H, List.drop_append_of_le_length (by omega), hz]
  unfold sh
  rw [hz, List.append_assoc]
  exact List.take_of_length_le (by simp only [List.length_append, List.length_drop, List.length_replicate, List.length_singleton]; omega)
 rw [e3]
 simp only [Option.bind_some]
 have hw := Q9K (Q3S (Qcb k0 k1) (Qj s) ((Qj s).length / 8)) (leI (Q49 (Qj s)))
 have h2 := Q5l hw 2 (Q1c ((mixS (mixN (kv k0 k1) (Qj s) ((Qj s).length / 8)) (leI (Q49 (Qj s)))).getD 2 0) 255)
 rw [Q1f hk h2]
 simp only [Option.bind_some]
 rw [Q1f hk (Q0J h2)]
 simp only [Option.bind_some]
 rw [Q1f hk (Q0J (Q0J h2))]
 simp only [Option.bind_some]
 rw [Q1f hk (Q0J (Q0J (Q0J h2)))]
 rfl
end Go.Am
namespace Go.Am
open Go
abbrev wu : (Unit × (Unit × Unit)) × Unit := (((), ((), ())), ())
theorem rd8 {k : Nat} (hk : 9 ≤ k) {l : List Int} (hl : Q0h l) (hm : l.length ≤ 140737488351232) {p : Nat} (hp : p + 8 ≤ l.length) :
  Qv k (bytesOf l, (p : Int), 0, ()) = some (leI ((l.drop p).take 8), (bytesOf l, ((p + 8 : Nat) : Int), 0, ()), ()) := by
 have hs := QQ l
 rw [Qe0 hk ⟨by dsimp only; omega, by dsimp only; omega, by dsimp only; omega⟩]
 unfold numS Q1L
 dsimp only
 rw [if_neg (by simp), if_neg (by omega), if_neg (by omega)]
 dsimp only
 rw [Q0Q hl, Q09 (fun x hx => hl x (List.mem_of_mem_drop (List.mem_of_mem_take hx))), show (p : Int).toNat = p by omega, show ((p : Int) + 8).toNat - p = 8 by omega, Int.natCast_add]
 rfl
theorem QeN {k : Nat} (hk : 9 ≤ k) {l : List Int} (hl : Q0h l) (hm : l.length ≤ 140737488351232) (hp : 8 ≤ l.length) :
  Qv k (bytesOf l, 0, 0, ()) = some (leI (l.take 8), (bytesOf l, 8, 0, ()), ()) := rd8 (p := 0) hk hl hm (by omega)
theorem Qfx {k : Nat} (hk : 9 ≤ k) {l : List Int} (hl : Q0h l) (hm : l.length ≤ 140737488351232) (hp : 16 ≤ l.length) :
  Qv k (bytesOf l, 8, 0, ()) = some (leI ((l.drop 8).take 8), (bytesOf l, 16, 0, ()), ()) := rd8 (p := 8) hk hl hm (by omega)
theorem Q78 (a : List Int) : Q0h (sumL a) := fun x hx => by have := Qbb _ x hx; omega
theorem Q73 (a : List Int) : (sumL a).length = 32 := Q8g _
def Qce (h : ByteArray) (n : Int) : Int × Int := (leI ((sumL (Qj h ++ lowI n 8)).take 8), leI (((sumL (Qj h ++ lowI n 8)).drop 8).take 8))
theorem Qae {k : Nat} (hk : 130 ≤ k) {h : ByteArray} (hh : h.size = 80) (n : Int) : Q0b k h n = some (((Qce h n).1, (Qce h n).2, ()), 0, ()) := by
 unfold Q0b Q0b.c
 rw [show (((ByteArray.size h : Nat) : Int) != 80) = false by rw [hh]; rfl, cond_false, show QN k = some (wu, [], ()) from rfl]
 simp only [Option.bind_some]
 have hz := Q04 h
 rw [wb (by simp only [List.length_nil]; omega)]
 simp only [Option.bind_some, List.nil_append]
 rw [wu64 (by omega) n (by omega)]
 simp only [Option.bind_some]
 have hl : (Qj h ++ lowI n 8).length = 88 := by rw [List.length_append, Q0W]; omega
 have hin : Q0h (Qj h ++ lowI n 8) := Q0Y (Q15 h) (Q5L n 8)
 unfold Qx Qx.c
 rw [Q0l (Q16 (by omega))]
 simp only [Option.bind_some]
 rw [Qbi (by omega) (by rw [QQ]; omega) (by rw [QQ]; omega), Q09 hin]
 simp only [Option.bind_some]
 have h32 := Q73 (Qj h ++ lowI n 8)
 have hb := Q78 (Qj h ++ lowI n 8)
 rw [List.drop_zero, List.take_of_length_le (by omega), show QD k (bytesOf (sumL (Qj h ++ lowI n 8))) = some ((bytesOf (sumL (Qj h ++ lowI n 8)), 0, 0, ()), ()) from rfl]
 simp only [Option.bind_some]
 rw [QeN (by omega) hb (by omega) (by omega)]
 simp only [Option.bind_some]
 rw [Qfx (by omega) hb (by omega) (by omega)]
 rfl
theorem Qa2 (k : Nat) {h : ByteArray} (hh : h.size ≠ 80) (n : Int) : Q0b k h n = some ((0, 0, ()), 1, ()) := by
 unfold Q0b Q0b.c
 rw [show (((ByteArray.size h : Nat) : Int) != 80) = true by rw [bne_iff_ne]; omega]
 rfl
theorem Q8G {k : Nat} (hk : 130 ≤ k) {h : ByteArray} (hh : h.size = 80) {n : Int} (hn : 0 ≤ n ∧ n ≤ 18446744073709551615) : QC k h n = some ((Qce h n).1, (Qce h n).2, ()) := by
 unfold QC QC.c
 rw [show (8 : Int) = ((8 : Nat) : Int) from rfl, Q2w (by omega) n hn 8 (by omega)]
 simp only [Option.bind_some]
 have hb := Q78 (Qj h ++ lowI n 8)
 have h32 := Q73 (Qj h ++ lowI n 8)
 have hsz : (h ++ bytesOf (lowI n 8)).size = 88 := by rw [ByteArray.size_append, QQ, Q0W]; omega
 rw [Q0l (Q16 (by rw [QQ, Q0W]; omega)), Qbg (by omega) (by omega) (by omega), Q4g, Q09 (Q5L n 8)]
 simp only [Option.bind_some]
 rw [List.drop_zero, Q19 (by omega) _ (by rw [QQ, List.length_take]; omega), Q09 (fun x hx => hb x (List.mem_of_mem_take hx))]
 simp only [Option.bind_some]
 rw [Q19 (by omega) _ (by rw [QQ, List.length_take]; omega), Q09 (fun x hx => hb x (List.mem_of_mem_drop (List.mem_of_mem_take hx)))]
 rfl
theorem QbD {x : Int} (h : r64 x) : Qw .and .u64 x 281474976710655 = x % 281474976710656 := by
 obtain ⟨X, rfl⟩ := Int.eq_ofNat_of_zero_le h.1
 have h2 := h.2
 show IntKind.u64.wrap (((BitVec.ofInt 64 (X : Int) &&& BitVec.ofInt 64 ((281474976710655 : Nat) : Int) : BitVec 64).toNat : Nat) : Int) = _
 rw [BitVec.toNat_and, toNat_ofInt 64 X (by omega), toNat_ofInt 64 281474976710655 (by decide)]
 have : X &&& 281474976710655 = X % 281474976710656 := Nat.and_two_pow_sub_one_eq_mod X 48
 rw [this, u64_in (by omega)]
 omega
theorem Q6I (k0 k1 : Int) (s : ByteArray) : r64 (Qc3 k0 k1 s) := QaZ _ _
def Q21 (k0 k1 : Int) (id : List Int) : Int := Qc3 k0 k1 (bytesOf id) % 281474976710656
theorem Q9L (k0 k1 : Int) (id : List Int) : 0 ≤ Q21 k0 k1 id ∧ Q21 k0 k1 id < 281474976710656 := by unfold Q21; omega
theorem Q5T {k : Nat} (hk : 33 ≤ k) (k0 k1 : Int) {id : List Int} (hi : id.length = 32) : Q00 k (k0, k1, ()) id = some (Q21 k0 k1 id, ()) := by
 unfold Q00 Q00.c
 rw [List.drop_zero, List.take_of_length_le (by omega)]
 dsimp only
 rw [Q6P (by omega) k0 k1 (by rw [QQ]; omega) (by rw [QQ]; omega)]
 simp only [Option.bind_some]
 rw [QbD (Q6I _ _ _)]
 rfl
theorem Q4v {k : Nat} (hk : 33 ≤ k) (k0 k1 : Int) {id : List Int} (hi : id.length = 32) : Ql k k0 k1 id = some (Q21 k0 k1 id, ()) := by
 unfold Ql Ql.c
 rw [List.drop_zero, List.take_of_length_le (by omega)]
 dsimp only
 rw [Q8D hk k0 k1 (by rw [QQ]; omega) (by rw [QQ]; omega)]
 simp only [Option.bind_some]
 rw [Int.tmod_eq_emod_of_nonneg (Q6I _ _ _).1]
 rfl
theorem Q3h {k : Nat} (hk : 9 ≤ k) {n : Int} (hn : n ≤ 281474976710655) : QI k n = some (bytesOf (lowI n 6), 0, ()) := by
 unfold QI QI.c
 rw [Q0z (by omega), show QN k = some (wu, [], ()) from rfl]
 simp only [Option.bind_some]
 rw [wu64 hk n (by simp only [List.length_nil]; omega)]
 simp only [Option.bind_some, List.nil_append]
 unfold Qx Qx.c
 have hl := Q0W n 8
 rw [Q0l (Q16 (by omega))]
 simp only [Option.bind_some]
 have hs := QQ (lowI n 8)
 rw [QF (by omega), Q0Q (Q5L n 8), List.drop_zero]
 rfl
theorem Q5w {k : Nat} {n : Int} (hn : 281474976710655 < n) : QI k n = some (⟨List.toArray []⟩, 30, ()) := by
 unfold QI QI.c
 rw [QF (by omega)]
def tkS (s : ByteArray) (at' : Int) : Int × Int := if at' < 0 ∨ at' > (s.size : Int) then (0, 1) else if (s.size : Int) - at' < 6 then (0, 4) else (leI (((Qj s).drop at'.toNat).take 6), 0)
theorem Q3v {k : Nat} (hk : 9 ≤ k) {s : ByteArray} (hs : s.size ≤ 140737488351232) (at' : Int) : Qm k s at' = some ((tkS s at').1, (tkS s at').2, ()) := by
 unfold Qm Qm.c
 have hp : Qm.p0 k (s, at', ()) = some (if at' < 0 ∨ at' > (s.size : Int) then .inl (0, 1, ()) else .inr (s, at', ())) := by
  unfold Qm.p0
  simp only [Qm.p0.r]
  by_cases h1 : at' < 0
  ·rw [QF h1, if_pos (.inl h1)]
  ·rw [Q0z h1]
   by_cases h2 : at' > (s.size : Int)
   ·rw [QF h2, if_pos (.inr h2)]
   ·rw [Q0z h2, if_neg (by omega)]
 rw [hp]
 simp only [Option.bind_some]
 unfold tkS
 by_cases h : at' < 0 ∨ at' > (s.size : Int)
 ·rw [if_pos h, if_pos h]
 ·rw [if_neg h, if_neg h]
  dsimp only
  obtain ⟨p, rfl⟩ := Int.eq_ofNat_of_zero_le (show 0 ≤ at' by omega)
  have hp2 : p ≤ s.size := by omega
  have hz := Q04 s
  rw [QF (by omega), show (p : Int).toNat = p by omega, show ((s.size : Nat) : Int).toNat = s.size by omega]
  have he : s.extract p s.size = bytesOf ((Qj s).drop p) := by
   apply Q3b
   rw [Q2u, Q09 (fun x hx => Q15 s x (List.mem_of_mem_drop hx)), List.take_of_length_le (by rw [List.length_drop]; omega)]
  have hin : Q0h ((Qj s).drop p) := fun x hx => Q15 s x (List.mem_of_mem_drop hx)
  have hsz : (bytesOf ((Qj s).drop p)).size = s.size - p := by rw [QQ, List.length_drop, hz]
  rw [he, show QD k (bytesOf ((Qj s).drop p)) = some ((bytesOf ((Qj s).drop p), 0, 0, ()), ()) from rfl]
  simp only [Option.bind_some]
  rw [QaK k ⟨by dsimp only; omega, by dsimp only; omega, by dsimp only; omega⟩]
  simp only [Option.bind_some]
  unfold Q1L
  dsimp only
  rw [if_neg (by simp), if_neg (by omega)]
  by_cases h6 : (s.size : Int) - (p : Int) < 6
  ·rw [if_pos (by omega), if_pos h6]
   rfl
  ·rw [if_neg (by omega), if_neg h6]
   dsimp only
   rw [show QG k (bytesOf ((Qj s).drop p), (0 : Int) + 6, 0, ()) = some (0, (bytesOf ((Qj s).drop p), (0 : Int) + 6, 0, ()), ()) from rfl]
   simp only [Option.bind_some]
   rw [show ((0 : Int) != 0) = false from rfl, cond_false, Q0Q hin]
   have ht : ((List.drop (0 : Int).toNat ((Qj s).drop p)).take (((0 : Int) + 6).toNat - (0 : Int).toNat)) = ((Qj s).drop p).take 6 := rfl
   rw [ht]
   have hl6 : (((Qj s).drop p).take 6).length = 6 := by rw [List.length_take, List.length_drop]; omega
   have hi6 : Q0h (((Qj s).drop p).take 6) := fun x hx => hin x (List.mem_of_mem_take hx)
   rw [Q0l (Q16 (by rw [QQ]; omega)), show (⟨(List.toArray [0, 0])⟩ : ByteArray) = bytesOf [0, 0] from rfl, Q11]
   have hi8 : Q0h (((Qj s).drop p).take 6 ++ [0, 0]) := Q0Y hi6 (by intro x hx; simp at hx; omega)
   rw [show QD k (bytesOf (((Qj s).drop p).take 6 ++ [0, 0])) = some ((bytesOf (((Qj s).drop p).take 6 ++ [0, 0]), 0, 0, ()), ()) from rfl]
   simp only [Option.bind_some]
   rw [QeN hk hi8 (by rw [List.length_append]; simp only [List.length_cons, List.length_nil]; omega) (by rw [List.length_append]; simp only [List.length_cons, List.length_nil]; omega)]
   simp only [Option.bind_some]
   rw [List.take_of_length_le (by rw [List.length_append]; simp only [List.length_cons, List.length_nil]; omega), Q7x]
   simp [leI]
theorem QdR {header : ByteArray} (hh : header.size ≤ 140737488351232) {nonce : Int} (hn : 0 ≤ nonce ∧ nonce ≤ 18446744073709551615) {id : List Int} (hid : id.length = 32) {s : ByteArray} (hs : s.size ≤ 140737488351232) (at' : Int) :
  Q1 200 (header, nonce, id, s, at', ()) = some (true, ()) := by
 unfold Q1 Q1.c
 generalize hk : 200 = k
 dsimp only
 obtain ⟨k0, k1, e, hK, hp0, hp1⟩ : ∃ k0 k1 e, Q0b k header nonce = some ((k0, k1, ()), e, ()) ∧
   Q1.p0 k (header, nonce, s, at', e, id, (k0, k1, ()), ()) = some (.inr (header, nonce, s, at', e, id, (k0, k1, ()), ())) ∧
   Q1.p1 k (header, nonce, s, at', e, id, (k0, k1, ()), ()) = some (.inr (nonce, s, at', id, (k0, k1, ()), ())) := by
  by_cases h80 : header.size = 80
  ·refine ⟨_, _, _, Qae (by omega) h80 nonce, ?_, ?_⟩
   ·unfold Q1.p0
    simp only [Q1.p0.r]
    rw [Q7r (by omega), h80]
    rfl
   ·unfold Q1.p1
    simp only [Q1.p1.r]
    rw [Q8G (by omega) h80 hn]
    simp only [Option.bind_some, bne_self_eq_false, cond_false]
    rfl
  ·refine ⟨_, _, _, Qa2 k h80 nonce, ?_, ?_⟩
   ·unfold Q1.p0
    simp only [Q1.p0.r]
    rw [Q7r (by omega), show (((ByteArray.size header : Nat) : Int) == 80) = false by rw [beq_eq_false_iff_ne]; omega]
    rfl
   ·unfold Q1.p1
    simp only [Q1.p1.r]
    rfl
 rw [hK]
 simp only [Option.bind_some]
 rw [hp0]
 simp only [Option.bind_some]
 rw [hp1]
 simp only [Option.bind_some]
 have hsr := Q9L k0 k1 id
 rw [Q5T (by omega) k0 k1 hid]
 simp only [Option.bind_some]
 rw [Q3h (by omega) (by omega)]
 simp only [Option.bind_some]
 have hsz : (bytesOf (lowI (Q21 k0 k1 id) 6)).size = 6 := by rw [QQ, Q0W]
 have htk : tkS (bytesOf (lowI (Q21 k0 k1 id) 6)) 0 = (Q21 k0 k1 id, 0) := by
  unfold tkS
  rw [hsz, if_neg (by omega), if_neg (by omega), Q09 (Q5L _ _)]
  rw [show (0 : Int).toNat = 0 from rfl, List.drop_zero, List.take_of_length_le (by rw [Q0W]; omega), Qds]
  rw [Int.emod_eq_of_lt hsr.1 (by exact hsr.2)]
 rw [Q3v (by omega) (by omega), htk]
 simp only [Option.bind_some]
 obtain ⟨t, h, hSB, hh1⟩ : ∃ t h, QI k nonce = some (t, h, ()) ∧ ((nonce ≤ 281474976710655 ∧ h = 0) ∨ (281474976710655 < nonce ∧ h = 30)) := by
  by_cases hle : nonce ≤ 281474976710655
  ·exact ⟨_, _, Q3h (by omega) hle, .inl ⟨hle, rfl⟩⟩
  ·exact ⟨_, _, Q5w (by omega), .inr ⟨by omega, rfl⟩⟩
 rw [hSB]
 simp only [Option.bind_some]
 have hp2 : Q1.p2 k (nonce, s, at', Q21 k0 k1 id, bytesOf (lowI (Q21 k0 k1 id) 6), 0, Q21 k0 k1 id, 0, h, id, (k0, k1, ()), ()) = some (.inr (s, at', ())) := by
  unfold Q1.p2
  simp only [Q1.p2.r]
  rw [Q4v (by omega) k0 k1 hid]
  simp only [Option.bind_some, bne_self_eq_false, cond_false]
  rw [show (6 : Int) = ((6 : Nat) : Int) from rfl, Q2w (by omega) _ (by omega) 6 (by omega)]
  simp only [Option.bind_some]
  rw [Qbs]
  rcases hh1 with ⟨h1, rfl⟩ | ⟨h1, rfl⟩
  ·rw [decide_eq_true (show nonce < 281474976710656 by omega)]
   rfl
  ·rw [decide_eq_false (show ¬ nonce < 281474976710656 by omega)]
   rfl
 rw [hp2]
 simp only [Option.bind_some]
 rw [Q3v (by omega) hs at']
 simp only [Option.bind_some]
 unfold Q1.p3
 simp only [Q1.p3.r]
 have hz := Q04 s
 unfold tkS
 by_cases hlt : at' < 0
 ·rw [QF hlt, if_pos (.inl hlt)]
  rfl
 ·rw [Q0z hlt]
  by_cases hgt : at' > (s.size : Int)
  ·rw [QF hgt, if_pos (.inr hgt)]
   rfl
  ·rw [Q0z hgt, if_neg (by omega)]
   simp only [Option.bind_some]
   rw [i64_in (n := (s.size : Int) - at') (by omega)]
   by_cases h6 : (s.size : Int) - at' < 6
   ·rw [QF h6, if_pos h6]
    rfl
   ·rw [Q0z h6, if_neg h6, show ((0 : Int) == 0) = true from rfl, cond_true, i64_in (by omega), QF (by omega)]
    have hl6 : (((Qj s).drop at'.toNat).take 6).length = 6 := by rw [List.length_take, List.length_drop]; omega
    have hex : (s.extract at'.toNat (at' + 6).toNat) = bytesOf (((Qj s).drop at'.toNat).take 6) := by
     apply Q3b
     rw [Q2u, Q09 (fun x hx => Q15 s x (List.mem_of_mem_drop (List.mem_of_mem_take hx))), show (at' + 6).toNat - at'.toNat = 6 by omega]
    rw [hex, Q19 (by omega) _ (by rw [QQ]; omega), Q09 (fun x hx => Q15 s x (List.mem_of_mem_drop (List.mem_of_mem_take hx)))]
    simp only [Option.bind_some, beq_self_eq_true]
end Go.Am
