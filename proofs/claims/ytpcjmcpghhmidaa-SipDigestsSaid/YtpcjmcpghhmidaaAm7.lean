/- A part of a proof: a machine of abstract values that tells what functions of the program compute, and the plain facts on them. -/
import Derived.Test.YtpcjmcpghhmidaaAm5
import Derived.Test.YtpcjmcpghhmidaaRows
import Derived.KernelRfl
import Derived.Test.YtpcjmcpghhmidaaProg
import Derived.Test.YtpcjmcpghhmidaaAm6
set_option linter.unusedVariables false
set_option linter.unusedSimpArgs false
set_option linter.unnecessarySimpa false
set_option linter.unusedSectionVars false
/- What the rows of this seat share. -/
namespace Go.Proofs.Ytpcjmcpghhmidaa
open Go.RowKit Go.Am

theorem Try.own : ownKnob Try.prog.godebug = none := by kernel_rfl
theorem Try.laidOut : laidOutB Try.prog = true := by kernel_rfl
end Go.Proofs.Ytpcjmcpghhmidaa
namespace Go.Am
open Go
theorem all_getD {p : Int → Prop} {l : List Int} (h : ∀ i, i < l.length → p (l.getD i 0)) : ∀ x ∈ l, p x := by
  intro x hx
  obtain ⟨i, hi, rfl⟩ := List.getElem_of_mem hx
  have := h i hi
  rw [List.getD_eq_getElem?_getD] at this
  simpa [hi] using this
theorem reachBytes_eq : reachBytes = 140737488351232 := rfl
end Go.Am
/- The program of the seat: orders. -/
namespace Go.Am
open Go Go.Proofs
theorem _root_.Go.Proofs.Try.mix : Try.prog.follows .mixedOrders = true := by kernel_rfl
end Go.Am
/- The program of the seat: strings.Builder and strings.Repeat, laid. -/
namespace Go.Am
open Go Go.Proofs Go.Shelf
set_option maxRecDepth 100000
def Bld.fs : List (Nat × Nat) := [(240, 124), (276, 132), (169, 108), (105, 75), (99, 104), (165, 105), (166, 106), (170, 107), (206, 123), (212, 103), (241, 125), (263, 121), (264, 122), (277, 133)]
def Bld.ts : List (Nat × Nat) := [(72, 173), (70, 171), (164, 202), (37, 103), (127, 190), (20, 20), (46, 164), (51, 36), (53, 22), (75, 176), (76, 177), (109, 169), (146, 191), (148, 109), (80, 124)]
def Bld.look : List (Nat × Nat) → Nat → Nat
  | [], n => n
  | (a, b) :: l, n => if n = a then b else Bld.look l n
def Bld.ren : Ren := ⟨Bld.look Bld.fs, Bld.look Bld.ts, fun n => n⟩
theorem Bld.lays240 : Lays.n240 Try.prog Bld.ren := by
  constructor <;> first | kernel_rfl | (intro w; kernel_rfl)
theorem Bld.lays169 : Lays.n169 Try.prog Bld.ren := by
  constructor <;> first | kernel_rfl | (intro w; kernel_rfl)
theorem Bld.lays105 : Lays.n105 Try.prog Bld.ren := by
  constructor <;> first | kernel_rfl | (intro w; kernel_rfl)
theorem Bld.x72 : Builder.X72 Try.prog Bld.ren where
  sizeBuilder := by kernel_rfl
  liesBuilder := by kernel_rfl
theorem Bld.extra : Builder.Extra Try.prog Bld.ren where
  sizeBuilder := by kernel_rfl
  liesBuilder := by kernel_rfl
  t5 := by kernel_rfl
  a5 := fun w => by kernel_rfl
  z5 := fun w => by kernel_rfl
  v5 := fun w => by kernel_rfl
  infoByte := by kernel_rfl
  cellsByte := by kernel_rfl
  sizeByte := by kernel_rfl
  neB5 := by decide
theorem Bld.copyCheck : SemOK Try.prog 124 (ccSem 180 2) := copyCheck_ok Bld.lays240 Bld.x72 (by kernel_rfl) (by constructor <;> kernel_rfl)
theorem Bld.string : SemOK Try.prog 108 strSem := string_ok Bld.lays169 Bld.extra rfl (by constructor <;> kernel_rfl)
def strings_Repeat (k : Nat) (s : ByteArray) (c : Int) : Option (ByteArray × Unit) := repJ s c
def strings_Repeat.tin : List Ty := [.str, (.int .i64)]
def strings_Repeat.tout : List Ty := [.str]
def strings_Repeat.sem (k : Nat) : CallSem := callPure strings_Repeat.tin strings_Repeat.tout fun x => strings_Repeat k x.1 x.2.1
theorem strings_Repeat.sem_ok (k : Nat) : SemOK Try.prog 75 (strings_Repeat.sem k) :=
  repeat_ok Bld.lays105 Bld.extra (by constructor <;> kernel_rfl)
end Go.Am
/- The program of the seat: strings.Clone, bytes.Compare. -/
namespace Go.Am
open Go Go.Proofs Go.Shelf
set_option maxRecDepth 100000
def Cln.fs : List (Nat × Nat) := [(316, 102)]
def Cln.ts : List (Nat × Nat) := [(37, 103), (127, 190)]
def Cln.ren : Ren := ⟨Bld.look Cln.fs, Bld.look Cln.ts, fun n => n⟩
theorem Cln.lays316 : LaysM.n316 Try.prog Cln.ren := by
  constructor <;> first | kernel_rfl | (intro w; kernel_rfl) | (constructor <;> first | kernel_rfl | (intro w; kernel_rfl))
def stringslite_Clone (k : Nat) (s : ByteArray) : Option (ByteArray × Unit) := cloneJ s
def stringslite_Clone.tin : List Ty := [.str]
def stringslite_Clone.tout : List Ty := [.str]
def stringslite_Clone.sem (k : Nat) : CallSem := callPure stringslite_Clone.tin stringslite_Clone.tout fun x => stringslite_Clone k x.1
theorem stringslite_Clone.sem_ok (k : Nat) : SemOK Try.prog 102 (stringslite_Clone.sem k) :=
  clone_ok Cln.lays316 (by constructor <;> kernel_rfl)
def bytealg_Compare (k : Nat) (a b : List Int) : Option (Int × Unit) := some (cmpB a b, ())
def bytealg_Compare.tin : List Ty := [(.sl (.int .u8)), (.sl (.int .u8))]
def bytealg_Compare.tout : List Ty := [(.int .i64)]
def bytealg_Compare.sem (k : Nat) : CallSem := callPure bytealg_Compare.tin bytealg_Compare.tout fun x => bytealg_Compare k x.1 x.2.1
theorem bytealg_Compare.sem_ok (k : Nat) : SemOK Try.prog 111 (bytealg_Compare.sem k) :=
  compare_ok Try.func111 (by kernel_rfl) (by kernel_rfl) (by kernel_rfl) (by kernel_rfl)
end Go.Am
namespace Go.Am
open Go Go.Proofs
set_option maxRecDepth 100000
/-! 128 bedrock/sha.First -/
def sha_First.c (k : Nat) {ρ : Type}  (K : (List Int) × Unit → Option ρ) : Option ρ :=
  let v0 : (List Int) := (List.set (List.set (List.set (List.set (List.set (List.set (List.set (List.set (List.replicate 8 (0 : Int)) 0 (1779033703 : Int)) 1 (3144134277 : Int)) 2 (1013904242 : Int)) 3 (2773480762 : Int)) 4 (1359893119 : Int)) 5 (2600822924 : Int)) 6 (528734635 : Int)) 7 (1541459225 : Int))
  K (v0, ())
def sha_First (k : Nat)  : Option ((List Int) × Unit) := sha_First.c k  some
def sha_First.tin : List Ty := []
def sha_First.tout : List Ty := [(.arr 8 (.int .u32))]
def sha_First.sem (k : Nat) : CallSem := callPure sha_First.tin sha_First.tout fun x => sha_First k 
noncomputable def sha_First.ctx (k : Nat) : Ctx := ⟨Try.prog, gam []⟩
theorem sha_First.gok (k : Nat) : ∀ f, SemOK Try.prog f ((sha_First.ctx k).Γ f) := gam_nil
def sha_First.ann (k : Nat) : Ann := .nil
theorem sha_First.body (k : Nat) : BodyIs (sha_First.ctx k) Try.f128 (Func.code Try.f128) (sha_First.ann k) sha_First.tin sha_First.tout (fun x K => sha_First.c k  K) := by
  intro ρ x K; kernel_rfl
theorem sha_First.sem_ok (k : Nat) : SemOK Try.prog 128 (sha_First.sem k) :=
  callPure_ok (C := sha_First.ctx k) (sha_First.gok k) Try.mix (c := Func.code Try.f128) (ann := sha_First.ann k) (tin := sha_First.tin) (tout := sha_First.tout) (fun x K => sha_First.c k  K) Try.func128 (by kernel_rfl) (by kernel_rfl) AnnOK.nil (sha_First.body k)

/-! 117 bedrock/sha.New · with blocks -/
abbrev sha_New.τ : Type := (((List Int) × (Unit × (Int × Unit))) × Unit)
def sha_New.c (k : Nat) {ρ : Type}  (K : sha_New.τ → Option ρ) : Option ρ :=
  (sha_First k ).bind fun t0 => K ((t0.1, ((), ((0 : Int), ()))), ())
def sha_New (k : Nat)  : Option sha_New.τ := sha_New.c k  some
def sha_New.T : CallT := ⟨[], [], 0⟩
def sha_New.os : List Out := [⟨.ret, [.auto 0], ⟨[.ptr 0 []], [.pair (.dat (.arr 8 (.int .u32))) (.pair (.nils) (.dat (.pair (.int .u64) .unit)))]⟩⟩]
def sha_New.sem (k : Nat) : CallSem := callH sha_New.T sha_New.os fun x => sha_New k 
noncomputable def sha_New.ctx (k : Nat) : Ctx := ⟨Try.prog, gam [(128, (sha_First.sem k))]⟩
theorem sha_New.gok (k : Nat) : ∀ f, SemOK Try.prog f ((sha_New.ctx k).Γ f) := (gam_cons (sha_First.sem_ok k) gam_nil)
def sha_New.ann (k : Nat) : Ann := .nil
theorem sha_New.body (k : Nat) : BodyH (sha_New.ctx k) Try.f117 (Func.code Try.f117) (sha_New.ann k) sha_New.T sha_New.os (fun x K => sha_New.c k  K) := by
  intro ρ x K; kernel_rfl
theorem sha_New.sem_ok (k : Nat) : SemOK Try.prog 117 (sha_New.sem k) :=
  callH_ok (C := sha_New.ctx k) (sha_New.gok k) Try.mix (c := Func.code Try.f117) (ann := sha_New.ann k) (T := sha_New.T) (os := sha_New.os) (fun x K => sha_New.c k  K) Try.func117 (by kernel_rfl) (by kernel_rfl) AnnOK.nil (sha_New.body k) (by kernel_rfl) (by kernel_rfl) (by kernel_rfl)

/-! 137 math/bits.RotateLeft32 -/
def math_bits_RotateLeft32.c (k : Nat) {ρ : Type} (x_0 : Int) (k_1 : Int) (K : Int × Unit → Option ρ) : Option ρ :=
  let v0 : Int := (bitsOp BinOp.and IntKind.u64 (IntKind.wrap IntKind.u64 k_1) (31 : Int))
  bif (decide ((0 : Int) ≤ v0)) then (let v1 : Int := (IntKind.wrap IntKind.u64 ((32 : Int) - v0))
  bif (decide ((0 : Int) ≤ v1)) then (let v2 : Int := (bitsOp BinOp.or IntKind.u32 (shlOp IntKind.u32 x_0 v0) (shrOp IntKind.u32 x_0 v1))
  K (v2, ())) else (none)) else (none)
def math_bits_RotateLeft32 (k : Nat) (x_0 : Int) (k_1 : Int) : Option (Int × Unit) := math_bits_RotateLeft32.c k x_0 k_1 some
def math_bits_RotateLeft32.tin : List Ty := [(.int .u32), (.int .i64)]
def math_bits_RotateLeft32.tout : List Ty := [(.int .u32)]
def math_bits_RotateLeft32.sem (k : Nat) : CallSem := callPure math_bits_RotateLeft32.tin math_bits_RotateLeft32.tout fun x => math_bits_RotateLeft32 k x.1 x.2.1
noncomputable def math_bits_RotateLeft32.ctx (k : Nat) : Ctx := ⟨Try.prog, gam []⟩
theorem math_bits_RotateLeft32.gok (k : Nat) : ∀ f, SemOK Try.prog f ((math_bits_RotateLeft32.ctx k).Γ f) := gam_nil
def math_bits_RotateLeft32.ann (k : Nat) : Ann := .nil
theorem math_bits_RotateLeft32.body (k : Nat) : BodyIs (math_bits_RotateLeft32.ctx k) Try.f137 (Func.code Try.f137) (math_bits_RotateLeft32.ann k) math_bits_RotateLeft32.tin math_bits_RotateLeft32.tout (fun x K => math_bits_RotateLeft32.c k x.1 x.2.1 K) := by
  intro ρ x K; kernel_rfl
theorem math_bits_RotateLeft32.sem_ok (k : Nat) : SemOK Try.prog 137 (math_bits_RotateLeft32.sem k) :=
  callPure_ok (C := math_bits_RotateLeft32.ctx k) (math_bits_RotateLeft32.gok k) Try.mix (c := Func.code Try.f137) (ann := math_bits_RotateLeft32.ann k) (tin := math_bits_RotateLeft32.tin) (tout := math_bits_RotateLeft32.tout) (fun x K => math_bits_RotateLeft32.c k x.1 x.2.1 K) Try.func137 (by kernel_rfl) (by kernel_rfl) AnnOK.nil (math_bits_RotateLeft32.body k)

/-! 136 bedrock/sha.turned -/
def sha_turned.c (k : Nat) {ρ : Type} (x_0 : Int) (n : Int) (K : Int × Unit → Option ρ) : Option ρ :=
  let v0 : Int := (IntKind.wrap IntKind.i64 ((0 : Int) - n))
  (math_bits_RotateLeft32 k x_0 v0).bind fun t1 => K (t1.1, ())
def sha_turned (k : Nat) (x_0 : Int) (n : Int) : Option (Int × Unit) := sha_turned.c k x_0 n some
def sha_turned.tin : List Ty := [(.int .u32), (.int .i64)]
def sha_turned.tout : List Ty := [(.int .u32)]
def sha_turned.sem (k : Nat) : CallSem := callPure sha_turned.tin sha_turned.tout fun x => sha_turned k x.1 x.2.1
noncomputable def sha_turned.ctx (k : Nat) : Ctx := ⟨Try.prog, gam [(137, (math_bits_RotateLeft32.sem k))]⟩
theorem sha_turned.gok (k : Nat) : ∀ f, SemOK Try.prog f ((sha_turned.ctx k).Γ f) := (gam_cons (math_bits_RotateLeft32.sem_ok k) gam_nil)
def sha_turned.ann (k : Nat) : Ann := .nil
theorem sha_turned.body (k : Nat) : BodyIs (sha_turned.ctx k) Try.f136 (Func.code Try.f136) (sha_turned.ann k) sha_turned.tin sha_turned.tout (fun x K => sha_turned.c k x.1 x.2.1 K) := by
  intro ρ x K; kernel_rfl
theorem sha_turned.sem_ok (k : Nat) : SemOK Try.prog 136 (sha_turned.sem k) :=
  callPure_ok (C := sha_turned.ctx k) (sha_turned.gok k) Try.mix (c := Func.code Try.f136) (ann := sha_turned.ann k) (tin := sha_turned.tin) (tout := sha_turned.tout) (fun x K => sha_turned.c k x.1 x.2.1 K) Try.func136 (by kernel_rfl) (by kernel_rfl) AnnOK.nil (sha_turned.body k)

/-! 134 bedrock/sha.words · with blocks -/
abbrev sha_words.l1.σ : Type := Int × Int × (Nat × Nat) × Int × Int × (List Int) × (List Int) × (List Int) × Unit
abbrev sha_words.l1.τ : Type := (Int × (List Int) × (List Int) × (List Int) × Unit)
def sha_words.l1.r (k : Nat) {ρ : Type} (x : sha_words.l1.σ) (kn : sha_words.l1.σ → Option ρ) (ke : sha_words.l1.τ → Option ρ) : Option ρ :=
  bif (decide (x.2.2.2.2.1 < x.2.2.2.1)) then (bif (decide (((0 : Int) ≤ x.2.2.2.2.1) ∧ (x.2.2.2.2.1 < ((x.2.2.1.2 : Nat) : Int)))) then (let v4 : Int := (List.getD x.2.2.2.2.2.1 (x.2.2.1.1 + (Int.toNat x.2.2.2.2.1)) (0 : Int))
  bif (decide (((0 : Int) ≤ x.1) ∧ (x.1 < ((64 : Nat) : Int)))) then (let v5 : Int := (List.getD x.2.2.2.2.2.2.2.1 (Int.toNat x.1) (0 : Int))
  let v6 : Int := (shlOp IntKind.u32 v5 (8 : Int))
  bif (decide (((0 : Int) ≤ x.1) ∧ (x.1 < ((64 : Nat) : Int)))) then (let v7 : Int := (IntKind.wrap IntKind.i64 (x.2.2.2.2.1 + (1 : Int)))
  kn (x.1, (x.2.1, ((x.2.2.1.1, x.2.2.1.2), (x.2.2.2.1, (v7, (x.2.2.2.2.2.1, (x.2.2.2.2.2.2.1, ((List.set x.2.2.2.2.2.2.2.1 (Int.toNat x.1) (bitsOp BinOp.or IntKind.u32 v6 (IntKind.wrap IntKind.u32 v4))), ()))))))))) else (none)) else (none)) else (none)) else (ke (x.2.1, (x.2.2.2.2.2.1, (x.2.2.2.2.2.2.1, (x.2.2.2.2.2.2.2.1, ())))))
def sha_words.l1 (k : Nat) : Nat → sha_words.l1.σ → Option sha_words.l1.τ := loopJ (sha_words.l1.r k)
def sha_words.l1.T : StT := ⟨.ptr 0 [] :: us 1 ++ .ptr 1 [] :: .ptr 2 [] :: .dat (.int .i64) :: us 7 ++ .dat (.int .i64) :: us 9 ++ .slr 0 [] :: .dat (.int .i64) :: .dat (.int .i64) :: us 58, [.dat (.arr 64 (.int .u8)), .dat (.arr 64 (.int .u32)), .dat (.arr 64 (.int .u32))]⟩
def sha_words.l1.os : List Out := [⟨(.exit 2), [.mask [0, 2, 3, 12], .auto 1], ⟨.ptr 0 [] :: us 1 ++ .ptr 1 [] :: .ptr 2 [] :: us 8 ++ .dat (.int .i64) :: us 70, [.dat (.arr 64 (.int .u8)), .dat (.arr 64 (.int .u32)), .dat (.arr 64 (.int .u32))]⟩⟩]
abbrev sha_words.l0.σ : Type := Int × (List Int) × (List Int) × (List Int) × Unit
abbrev sha_words.l0.τ : Type := ((List Int) × (List Int) × (List Int) × Unit)
def sha_words.l0.r (k : Nat) {ρ : Type} (x : sha_words.l0.σ) (kn : sha_words.l0.σ → Option ρ) (ke : sha_words.l0.τ → Option ρ) : Option ρ :=
  bif (decide (x.1 < (16 : Int))) then (let v0 : Int := (IntKind.wrap IntKind.i64 ((4 : Int) * x.1))
  let v1 : Int := (IntKind.wrap IntKind.i64 (x.1 + (1 : Int)))
  let v2 : Int := (IntKind.wrap IntKind.i64 ((4 : Int) * v1))
  bif (decide (((0 : Int) ≤ v0) ∧ ((v0 ≤ v2) ∧ (v2 ≤ ((64 : Nat) : Int))))) then (let v3 : Int := (((Int.toNat (v2 - v0)) : Nat) : Int)
  (sha_words.l1 k k (x.1, (x.1, (((Int.toNat v0), (Int.toNat (v2 - v0))), (v3, ((0 : Int), (x.2.1, (x.2.2.1, (x.2.2.2.1, ()))))))))).bind fun t8 => let v9 : Int := (IntKind.wrap IntKind.i64 (t8.1 + (1 : Int)))
  kn (v9, (t8.2.1, (t8.2.2.1, (t8.2.2.2.1, ()))))) else (none)) else (ke (x.2.1, (x.2.2.1, (x.2.2.2.1, ()))))
def sha_words.l0 (k : Nat) : Nat → sha_words.l0.σ → Option sha_words.l0.τ := loopJ (sha_words.l0.r k)
def sha_words.l0.T : StT := ⟨.ptr 0 [] :: us 1 ++ .ptr 1 [] :: .ptr 2 [] :: us 8 ++ .dat (.int .i64) :: us 70, [.dat (.arr 64 (.int .u8)), .dat (.arr 64 (.int .u32)), .dat (.arr 64 (.int .u32))]⟩
def sha_words.l0.os : List Out := [⟨(.exit 0), [.mask [2, 3], .auto 1], ⟨us 2 ++ .ptr 1 [] :: .ptr 2 [] :: us 79, [.dat (.arr 64 (.int .u8)), .dat (.arr 64 (.int .u32)), .dat (.arr 64 (.int .u32))]⟩⟩]
abbrev sha_words.l2.σ : Type := Int × (List Int) × (List Int) × (List Int) × Unit
abbrev sha_words.l2.τ : Type := ((List Int) × (List Int) × (List Int) × Unit)
def sha_words.l2.r (k : Nat) {ρ : Type} (x : sha_words.l2.σ) (kn : sha_words.l2.σ → Option ρ) (ke : sha_words.l2.τ → Option ρ) : Option ρ :=
  bif (decide (x.1 < (64 : Int))) then (let v11 : Int := (IntKind.wrap IntKind.i64 (x.1 - (2 : Int)))
  bif (decide (((0 : Int) ≤ v11) ∧ (v11 < ((64 : Nat) : Int)))) then (let v12 : Int := (List.getD x.2.2.2.1 (Int.toNat v11) (0 : Int))
  let v13 : Int := (IntKind.wrap IntKind.i64 (x.1 - (15 : Int)))
  bif (decide (((0 : Int) ≤ v13) ∧ (v13 < ((64 : Nat) : Int)))) then (let v14 : Int := (List.getD x.2.2.2.1 (Int.toNat v13) (0 : Int))
  (sha_turned k v12 (17 : Int)).bind fun t15 => (sha_turned k v12 (19 : Int)).bind fun t16 => let v17 : Int := (bitsOp BinOp.xor IntKind.u32 t15.1 t16.1)
  let v18 : Int := (shrOp IntKind.u32 v12 (10 : Int))
  (sha_turned k v14 (7 : Int)).bind fun t19 => (sha_turned k v14 (18 : Int)).bind fun t20 => let v21 : Int := (bitsOp BinOp.xor IntKind.u32 t19.1 t20.1)
  let v22 : Int := (shrOp IntKind.u32 v14 (3 : Int))
  let v23 : Int := (IntKind.wrap IntKind.i64 (x.1 - (7 : Int)))
  bif (decide (((0 : Int) ≤ v23) ∧ (v23 < ((64 : Nat) : Int)))) then (let v24 : Int := (List.getD x.2.2.2.1 (Int.toNat v23) (0 : Int))
  let v25 : Int := (IntKind.wrap IntKind.u32 ((bitsOp BinOp.xor IntKind.u32 v17 v18) + v24))
  let v26 : Int := (IntKind.wrap IntKind.u32 (v25 + (bitsOp BinOp.xor IntKind.u32 v21 v22)))
  let v27 : Int := (IntKind.wrap IntKind.i64 (x.1 - (16 : Int)))
  bif (decide (((0 : Int) ≤ v27) ∧ (v27 < ((64 : Nat) : Int)))) then (let v28 : Int := (List.getD x.2.2.2.1 (Int.toNat v27) (0 : Int))
  let v29 : Int := (IntKind.wrap IntKind.u32 (v26 + v28))
  bif (decide (((0 : Int) ≤ x.1) ∧ (x.1 < ((64 : Nat) : Int)))) then (let v30 : Int := (IntKind.wrap IntKind.i64 (x.1 + (1 : Int)))
  kn (v30, (x.2.1, (x.2.2.1, ((List.set x.2.2.2.1 (Int.toNat x.1) v29), ()))))) else (none)) else (none)) else (none)) else (none)) else (none)) else (ke (x.2.1, (x.2.2.1, (x.2.2.2.1, ()))))
def sha_words.l2 (k : Nat) : Nat → sha_words.l2.σ → Option sha_words.l2.τ := loopJ (sha_words.l2.r k)
def sha_words.l2.T : StT := ⟨us 2 ++ .ptr 1 [] :: .ptr 2 [] :: us 3 ++ .dat (.int .i64) :: us 75, [.dat (.arr 64 (.int .u8)), .dat (.arr 64 (.int .u32)), .dat (.arr 64 (.int .u32))]⟩
def sha_words.l2.os : List Out := [⟨(.exit 4), [.mask [2, 3], .auto 1], ⟨us 2 ++ .ptr 1 [] :: .ptr 2 [] :: us 79, [.dat (.arr 64 (.int .u8)), .dat (.arr 64 (.int .u32)), .dat (.arr 64 (.int .u32))]⟩⟩]
abbrev sha_words.τ : Type := ((List Int) × (List Int) × Unit)
def sha_words.c (k : Nat) {ρ : Type} (b0 : (List Int)) (K : sha_words.τ → Option ρ) : Option ρ :=
  (sha_words.l0 k k ((0 : Int), (b0, ((List.replicate 64 (0 : Int)), ((List.replicate 64 (0 : Int)), ()))))).bind fun t10 => (sha_words.l2 k k ((16 : Int), (t10.1, (t10.2.1, (t10.2.2.1, ()))))).bind fun t31 => let v32 : (List Int) := t31.2.2.1
  K (v32, (t31.1, ()))
def sha_words (k : Nat) (b0 : (List Int)) : Option sha_words.τ := sha_words.c k b0 some
def sha_words.T : CallT := ⟨[.ptr 0 []], [.dat (.arr 64 (.int .u8))], 1⟩
def sha_words.os : List Out := [⟨.ret, [.freeze (.slot 0), .auto 1], ⟨[.dat (.arr 64 (.int .u32))], [.dat (.arr 64 (.int .u8))]⟩⟩]
def sha_words.sem (k : Nat) : CallSem := callH sha_words.T sha_words.os fun x => sha_words k x.1
noncomputable def sha_words.ctx (k : Nat) : Ctx := ⟨Try.prog, gam [(136, (sha_turned.sem k))]⟩
theorem sha_words.gok (k : Nat) : ∀ f, SemOK Try.prog f ((sha_words.ctx k).Γ f) := (gam_cons (sha_turned.sem_ok k) gam_nil)
theorem sha_words.l1.round (k : Nat) : RoundIs (sha_words.ctx k) (codeAt (Func.code Try.f134) [1, 1, 0, 1, 0, 0, 1, 1, 0, 0, 1, 1, 0, 0]) (.nil) sha_words.l1.T [.mask [0, 2, 3, 4, 12, 22, 23, 24], .auto 1] sha_words.l1.os (sha_words.l1.r k) := by
  intro ρ x kn ke; kernel_rfl
theorem sha_words.l1.ok (k : Nat) : StOK 1 Try.prog (.loop (codeAt (Func.code Try.f134) [1, 1, 0, 1, 0, 0, 1, 1, 0, 0, 1, 1, 0, 0])) (pieceSem sha_words.l1.T sha_words.l1.os (sha_words.l1 k k)) :=
  loop_ok (C := sha_words.ctx k) (sha_words.gok k) Try.mix AnnOK.nil (by kernel_rfl) (by kernel_rfl) (by kernel_rfl) (sha_words.l1.round k) k
theorem sha_words.l0.round (k : Nat) : RoundIs (sha_words.ctx k) (codeAt (Func.code Try.f134) [1, 1, 0, 1, 0, 0]) (.node [] none (.nil) (.node [] none (.nil) (.node [] none (.node [] none (.node [] none (.nil) (.node [] none (.nil) (.node [] none (.node [.mask [0, 2, 3, 4, 12, 22, 23, 24], .auto 1] (some (pieceSem sha_words.l1.T sha_words.l1.os (sha_words.l1 k k))) .nil .nil) (.nil)))) (.nil)) (.nil)))) sha_words.l0.T [.mask [0, 2, 3, 12], .auto 1] sha_words.l0.os (sha_words.l0.r k) := by
  intro ρ x kn ke; kernel_rfl
theorem sha_words.l0.ok (k : Nat) : StOK 1 Try.prog (.loop (codeAt (Func.code Try.f134) [1, 1, 0, 1, 0, 0])) (pieceSem sha_words.l0.T sha_words.l0.os (sha_words.l0 k k)) :=
  loop_ok (C := sha_words.ctx k) (sha_words.gok k) Try.mix (AnnOK.seq AnnOK.nil (AnnOK.seq AnnOK.nil (AnnOK.seq (AnnOK.block (AnnOK.seq AnnOK.nil (AnnOK.seq AnnOK.nil (AnnOK.block (AnnOK.loop (by kernel_rfl) (sha_words.l1.ok k)))))) AnnOK.nil))) (by kernel_rfl) (by kernel_rfl) (by kernel_rfl) (sha_words.l0.round k) k
theorem sha_words.l2.round (k : Nat) : RoundIs (sha_words.ctx k) (codeAt (Func.code Try.f134) [1, 1, 1, 0, 1, 0, 0]) (.nil) sha_words.l2.T [.mask [2, 3, 7], .auto 1] sha_words.l2.os (sha_words.l2.r k) := by
  intro ρ x kn ke; kernel_rfl
theorem sha_words.l2.ok (k : Nat) : StOK 1 Try.prog (.loop (codeAt (Func.code Try.f134) [1, 1, 1, 0, 1, 0, 0])) (pieceSem sha_words.l2.T sha_words.l2.os (sha_words.l2 k k)) :=
  loop_ok (C := sha_words.ctx k) (sha_words.gok k) Try.mix AnnOK.nil (by kernel_rfl) (by kernel_rfl) (by kernel_rfl) (sha_words.l2.round k) k
def sha_words.ann (k : Nat) : Ann := .node [] none (.nil) (.node [] none (.nil) (.node [] none (.node [] none (.nil) (.node [] none (.node [.mask [0, 2, 3, 12], .auto 1] (some (pieceSem sha_words.l0.T sha_words.l0.os (sha_words.l0 k k))) .nil .nil) (.nil))) (.node [] none (.node [] none (.nil) (.node [] none (.node [.mask [2, 3, 7], .auto 1] (some (pieceSem sha_words.l2.T sha_words.l2.os (sha_words.l2 k k))) .nil .nil) (.nil))) (.nil))))
theorem sha_words.body (k : Nat) : BodyH (sha_words.ctx k) Try.f134 (Func.code Try.f134) (sha_words.ann k) sha_words.T sha_words.os (fun x K => sha_words.c k x.1 K) := by
  intro ρ x K; kernel_rfl
theorem sha_words.sem_ok (k : Nat) : SemOK Try.prog 134 (sha_words.sem k) :=
  callH_ok (C := sha_words.ctx k) (sha_words.gok k) Try.mix (c := Func.code Try.f134) (ann := sha_words.ann k) (T := sha_words.T) (os := sha_words.os) (fun x K => sha_words.c k x.1 K) Try.func134 (by kernel_rfl) (by kernel_rfl) (AnnOK.seq AnnOK.nil (AnnOK.seq AnnOK.nil (AnnOK.seq (AnnOK.seq AnnOK.nil (AnnOK.block (AnnOK.loop (by kernel_rfl) (sha_words.l0.ok k)))) (AnnOK.seq (AnnOK.seq AnnOK.nil (AnnOK.block (AnnOK.loop (by kernel_rfl) (sha_words.l2.ok k)))) AnnOK.nil)))) (sha_words.body k) (by kernel_rfl) (by kernel_rfl) (by kernel_rfl)

/-! 135 bedrock/sha.constants · with blocks -/
abbrev sha_constants.τ : Type := ((List Int) × Unit)
def sha_constants.c (k : Nat) {ρ : Type}  (K : sha_constants.τ → Option ρ) : Option ρ :=
  let v0 : (List Int) := (List.set (List.set (List.set (List.set (List.set (List.set (List.set (List.set (List.set (List.set (List.set (List.set (List.set (List.set (List.set (List.set (List.set (List.set (List.set (List.set (List.set (List.set (List.set (List.set (List.set (List.set (List.set (List.set (List.set (List.set (List.set (List.set (List.set (List.set (List.set (List.set (List.set (List.set (List.set (List.set (List.set (List.set (List.set (List.set (List.set (List.set (List.set (List.set (List.set (List.set (List.set (List.set (List.set (List.set (List.set (List.set (List.set (List.set (List.set (List.set (List.set (List.set (List.set (List.set (List.replicate 64 (0 : Int)) 0 (1116352408 : Int)) 1 (1899447441 : Int)) 2 (3049323471 : Int)) 3 (3921009573 : Int)) 4 (961987163 : Int)) 5 (1508970993 : Int)) 6 (2453635748 : Int)) 7 (2870763221 : Int)) 8 (3624381080 : Int)) 9 (310598401 : Int)) 10 (607225278 : Int)) 11 (1426881987 : Int)) 12 (1925078388 : Int)) 13 (2162078206 : Int)) 14 (2614888103 : Int)) 15 (3248222580 : Int)) 16 (3835390401 : Int)) 17 (4022224774 : Int)) 18 (264347078 : Int)) 19 (604807628 : Int)) 20 (770255983 : Int)) 21 (1249150122 : Int)) 22 (1555081692 : Int)) 23 (1996064986 : Int)) 24 (2554220882 : Int)) 25 (2821834349 : Int)) 26 (2952996808 : Int)) 27 (3210313671 : Int)) 28 (3336571891 : Int)) 29 (3584528711 : Int)) 30 (113926993 : Int)) 31 (338241895 : Int)) 32 (666307205 : Int)) 33 (773529912 : Int)) 34 (1294757372 : Int)) 35 (1396182291 : Int)) 36 (1695183700 : Int)) 37 (1986661051 : Int)) 38 (2177026350 : Int)) 39 (2456956037 : Int)) 40 (2730485921 : Int)) 41 (2820302411 : Int)) 42 (3259730800 : Int)) 43 (3345764771 : Int)) 44 (3516065817 : Int)) 45 (3600352804 : Int)) 46 (4094571909 : Int)) 47 (275423344 : Int)) 48 (430227734 : Int)) 49 (506948616 : Int)) 50 (659060556 : Int)) 51 (883997877 : Int)) 52 (958139571 : Int)) 53 (1322822218 : Int)) 54 (1537002063 : Int)) 55 (1747873779 : Int)) 56 (1955562222 : Int)) 57 (2024104815 : Int)) 58 (2227730452 : Int)) 59 (2361852424 : Int)) 60 (2428436474 : Int)) 61 (2756734187 : Int)) 62 (3204031479 : Int)) 63 (3329325298 : Int))
  K (v0, ())
def sha_constants (k : Nat)  : Option sha_constants.τ := sha_constants.c k  some
def sha_constants.T : CallT := ⟨[], [], 0⟩
def sha_constants.os : List Out := [⟨.ret, [.auto 0], ⟨[.ptr 0 []], [.dat (.arr 64 (.int .u32))]⟩⟩]
def sha_constants.sem (k : Nat) : CallSem := callH sha_constants.T sha_constants.os fun x => sha_constants k 
noncomputable def sha_constants.ctx (k : Nat) : Ctx := ⟨Try.prog, gam []⟩
theorem sha_constants.gok (k : Nat) : ∀ f, SemOK Try.prog f ((sha_constants.ctx k).Γ f) := gam_nil
def sha_constants.ann (k : Nat) : Ann := .nil
theorem sha_constants.body (k : Nat) : BodyH (sha_constants.ctx k) Try.f135 (Func.code Try.f135) (sha_constants.ann k) sha_constants.T sha_constants.os (fun x K => sha_constants.c k  K) := by
  intro ρ x K; kernel_rfl
theorem sha_constants.sem_ok (k : Nat) : SemOK Try.prog 135 (sha_constants.sem k) :=
  callH_ok (C := sha_constants.ctx k) (sha_constants.gok k) Try.mix (c := Func.code Try.f135) (ann := sha_constants.ann k) (T := sha_constants.T) (os := sha_constants.os) (fun x K => sha_constants.c k  K) Try.func135 (by kernel_rfl) (by kernel_rfl) AnnOK.nil (sha_constants.body k) (by kernel_rfl) (by kernel_rfl) (by kernel_rfl)

/-! 129 bedrock/sha.Step -/
abbrev sha_Step.l0.σ : Type := Int × (List Int) × (List Int) × (List Int) × (List Int) × (List Int) × Unit
abbrev sha_Step.l0.τ : Type := ((List Int) × (List Int) × (List Int) × Unit)
def sha_Step.l0.r (k : Nat) {ρ : Type} (x : sha_Step.l0.σ) (kn : sha_Step.l0.σ → Option ρ) (ke : sha_Step.l0.τ → Option ρ) : Option ρ :=
  bif (decide (x.1 < (64 : Int))) then (let v2 : Int := (List.getD x.2.2.2.2.2.1 0 (0 : Int))
  let v3 : Int := (List.getD x.2.2.2.2.2.1 4 (0 : Int))
  (sha_turned k v3 (6 : Int)).bind fun t4 => (sha_turned k v3 (11 : Int)).bind fun t5 => let v6 : Int := (bitsOp BinOp.xor IntKind.u32 t4.1 t5.1)
  (sha_turned k v3 (25 : Int)).bind fun t7 => let v8 : Int := (bitsOp BinOp.xor IntKind.u32 v6 t7.1)
  (sha_turned k v2 (2 : Int)).bind fun t9 => (sha_turned k v2 (13 : Int)).bind fun t10 => let v11 : Int := (bitsOp BinOp.xor IntKind.u32 t9.1 t10.1)
  (sha_turned k v2 (22 : Int)).bind fun t12 => let v13 : Int := (bitsOp BinOp.xor IntKind.u32 v11 t12.1)
  let v14 : Int := (List.getD x.2.2.2.2.2.1 5 (0 : Int))
  let v15 : Int := (List.getD x.2.2.2.2.2.1 6 (0 : Int))
  let v16 : Int := (bitsOp BinOp.xor IntKind.u32 (bitsOp BinOp.and IntKind.u32 v3 v14) (bitsOp BinOp.and IntKind.u32 (notI IntKind.u32 v3) v15))
  let v17 : Int := (List.getD x.2.2.2.2.2.1 1 (0 : Int))
  let v18 : Int := (List.getD x.2.2.2.2.2.1 2 (0 : Int))
  let v19 : Int := (bitsOp BinOp.xor IntKind.u32 (bitsOp BinOp.and IntKind.u32 v2 v17) (bitsOp BinOp.and IntKind.u32 v2 v18))
  let v20 : Int := (List.getD x.2.2.2.2.2.1 1 (0 : Int))
  let v21 : Int := (List.getD x.2.2.2.2.2.1 2 (0 : Int))
  let v22 : Int := (bitsOp BinOp.xor IntKind.u32 v19 (bitsOp BinOp.and IntKind.u32 v20 v21))
  let v23 : Int := (List.getD x.2.2.2.2.2.1 7 (0 : Int))
  let v24 : Int := (IntKind.wrap IntKind.u32 (v23 + v8))
  let v25 : Int := (IntKind.wrap IntKind.u32 (v24 + v16))
  bif (decide (((0 : Int) ≤ x.1) ∧ (x.1 < ((64 : Nat) : Int)))) then (let v26 : Int := (List.getD x.2.2.2.2.1 (Int.toNat x.1) (0 : Int))
  let v27 : Int := (IntKind.wrap IntKind.u32 (v25 + v26))
  bif (decide (((0 : Int) ≤ x.1) ∧ (x.1 < ((64 : Nat) : Int)))) then (let v28 : Int := (List.getD x.2.2.2.1 (Int.toNat x.1) (0 : Int))
  let v29 : Int := (IntKind.wrap IntKind.u32 (v27 + v28))
  let v30 : Int := (IntKind.wrap IntKind.u32 (v29 + v13))
  let v31 : Int := (IntKind.wrap IntKind.u32 (v30 + v22))
  let v32 : Int := (List.getD x.2.2.2.2.2.1 0 (0 : Int))
  let v33 : Int := (List.getD x.2.2.2.2.2.1 1 (0 : Int))
  let v34 : Int := (List.getD x.2.2.2.2.2.1 2 (0 : Int))
  let v35 : Int := (List.getD x.2.2.2.2.2.1 3 (0 : Int))
  let v36 : Int := (IntKind.wrap IntKind.u32 (v35 + v29))
  let v37 : Int := (List.getD x.2.2.2.2.2.1 4 (0 : Int))
  let v38 : Int := (List.getD x.2.2.2.2.2.1 5 (0 : Int))
  let v39 : Int := (List.getD x.2.2.2.2.2.1 6 (0 : Int))
  let v40 : (List Int) := (List.set (List.set (List.set (List.set (List.set (List.set (List.set (List.set (List.replicate 8 (0 : Int)) 0 v31) 1 v32) 2 v33) 3 v34) 4 v36) 5 v37) 6 v38) 7 v39)
  let v41 : Int := (IntKind.wrap IntKind.i64 (x.1 + (1 : Int)))
  kn (v41, (x.2.1, (x.2.2.1, (x.2.2.2.1, (x.2.2.2.2.1, (v40, ()))))))) else (none)) else (none)) else (ke (x.2.1, (x.2.2.1, (x.2.2.2.2.2.1, ()))))
def sha_Step.l0 (k : Nat) : Nat → sha_Step.l0.σ → Option sha_Step.l0.τ := loopJ (sha_Step.l0.r k)
def sha_Step.l0.T : StT := ⟨us 2 ++ .ptr 0 [] :: us 1 ++ .ptr 1 [] :: .ptr 2 [] :: .ptr 3 [] :: .ptr 4 [] :: us 12 ++ .dat (.int .i64) :: us 99, [.dat (.arr 8 (.int .u32)), .dat (.arr 8 (.int .u32)), .dat (.arr 64 (.int .u32)), .dat (.arr 64 (.int .u32)), .dat (.arr 8 (.int .u32))]⟩
def sha_Step.l0.os : List Out := [⟨(.exit 0), [.mask [2, 4, 7], .auto 0], ⟨us 2 ++ .ptr 0 [] :: us 1 ++ .ptr 1 [] :: us 2 ++ .ptr 2 [] :: us 112, [.dat (.arr 8 (.int .u32)), .dat (.arr 8 (.int .u32)), .dat (.arr 8 (.int .u32))]⟩⟩]
abbrev sha_Step.l1.σ : Type := Int × (List Int) × (List Int) × (List Int) × Unit
abbrev sha_Step.l1.τ : Type := ((List Int) × (List Int) × Unit)
def sha_Step.l1.r (k : Nat) {ρ : Type} (x : sha_Step.l1.σ) (kn : sha_Step.l1.σ → Option ρ) (ke : sha_Step.l1.τ → Option ρ) : Option ρ :=
  bif (decide (x.1 < (8 : Int))) then (bif (decide (((0 : Int) ≤ x.1) ∧ (x.1 < ((8 : Nat) : Int)))) then (let v43 : Int := (List.getD x.2.2.2.1 (Int.toNat x.1) (0 : Int))
  bif (decide (((0 : Int) ≤ x.1) ∧ (x.1 < ((8 : Nat) : Int)))) then (let v44 : Int := (List.getD x.2.1 (Int.toNat x.1) (0 : Int))
  let v45 : Int := (IntKind.wrap IntKind.u32 (v43 + v44))
  bif (decide (((0 : Int) ≤ x.1) ∧ (x.1 < ((8 : Nat) : Int)))) then (let v46 : Int := (IntKind.wrap IntKind.i64 (x.1 + (1 : Int)))
  kn (v46, (x.2.1, (x.2.2.1, ((List.set x.2.2.2.1 (Int.toNat x.1) v45), ()))))) else (none)) else (none)) else (none)) else (ke (x.2.2.1, (x.2.2.2.1, ())))
def sha_Step.l1 (k : Nat) : Nat → sha_Step.l1.σ → Option sha_Step.l1.τ := loopJ (sha_Step.l1.r k)
def sha_Step.l1.T : StT := ⟨us 2 ++ .ptr 0 [] :: us 1 ++ .ptr 1 [] :: us 2 ++ .ptr 2 [] :: us 99 ++ .dat (.int .i64) :: us 12, [.dat (.arr 8 (.int .u32)), .dat (.arr 8 (.int .u32)), .dat (.arr 8 (.int .u32))]⟩
def sha_Step.l1.os : List Out := [⟨(.exit 2), [.mask [4, 7], .auto 0], ⟨us 4 ++ .ptr 0 [] :: us 2 ++ .ptr 1 [] :: us 112, [.dat (.arr 8 (.int .u32)), .dat (.arr 8 (.int .u32))]⟩⟩]
def sha_Step.c (k : Nat) {ρ : Type} (x_0 : (List Int)) (block : (List Int)) (K : (List Int) × Unit → Option ρ) : Option ρ :=
  (sha_words k block).bind fun t0 => (sha_constants k ).bind fun t1 => (sha_Step.l0 k k ((0 : Int), (x_0, ((List.replicate 8 (0 : Int)), (t0.1, (t1.1, (x_0, ()))))))).bind fun t42 => (sha_Step.l1 k k ((0 : Int), (t42.1, (t42.2.1, (t42.2.2.1, ()))))).bind fun t47 => let v48 : (List Int) := t47.2.1
  K (v48, ())
def sha_Step (k : Nat) (x_0 : (List Int)) (block : (List Int)) : Option ((List Int) × Unit) := sha_Step.c k x_0 block some
def sha_Step.tin : List Ty := [(.arr 8 (.int .u32)), (.arr 64 (.int .u8))]
def sha_Step.tout : List Ty := [(.arr 8 (.int .u32))]
def sha_Step.sem (k : Nat) : CallSem := callPure sha_Step.tin sha_Step.tout fun x => sha_Step k x.1 x.2.1
noncomputable def sha_Step.ctx (k : Nat) : Ctx := ⟨Try.prog, gam [(134, (sha_words.sem k)), (135, (sha_constants.sem k)), (136, (sha_turned.sem k))]⟩
theorem sha_Step.gok (k : Nat) : ∀ f, SemOK Try.prog f ((sha_Step.ctx k).Γ f) := (gam_cons (sha_words.sem_ok k) (gam_cons (sha_constants.sem_ok k) (gam_cons (sha_turned.sem_ok k) gam_nil)))
theorem sha_Step.l0.round (k : Nat) : RoundIs (sha_Step.ctx k) (codeAt (Func.code Try.f129) [1, 1, 1, 0, 1, 0, 0]) (.nil) sha_Step.l0.T [.mask [2, 4, 5, 6, 7, 20], .auto 0] sha_Step.l0.os (sha_Step.l0.r k) := by
  intro ρ x kn ke; kernel_rfl
theorem sha_Step.l0.ok (k : Nat) : StOK 0 Try.prog (.loop (codeAt (Func.code Try.f129) [1, 1, 1, 0, 1, 0, 0])) (pieceSem sha_Step.l0.T sha_Step.l0.os (sha_Step.l0 k k)) :=
  loop_ok (C := sha_Step.ctx k) (sha_Step.gok k) Try.mix AnnOK.nil (by kernel_rfl) (by kernel_rfl) (by kernel_rfl) (sha_Step.l0.round k) k
theorem sha_Step.l1.round (k : Nat) : RoundIs (sha_Step.ctx k) (codeAt (Func.code Try.f129) [1, 1, 1, 1, 0, 1, 0, 0]) (.nil) sha_Step.l1.T [.mask [2, 4, 7, 107], .auto 0] sha_Step.l1.os (sha_Step.l1.r k) := by
  intro ρ x kn ke; kernel_rfl
theorem sha_Step.l1.ok (k : Nat) : StOK 0 Try.prog (.loop (codeAt (Func.code Try.f129) [1, 1, 1, 1, 0, 1, 0, 0])) (pieceSem sha_Step.l1.T sha_Step.l1.os (sha_Step.l1 k k)) :=
  loop_ok (C := sha_Step.ctx k) (sha_Step.gok k) Try.mix AnnOK.nil (by kernel_rfl) (by kernel_rfl) (by kernel_rfl) (sha_Step.l1.round k) k
def sha_Step.ann (k : Nat) : Ann := .node [] none (.nil) (.node [] none (.nil) (.node [] none (.nil) (.node [] none (.node [] none (.nil) (.node [] none (.node [.mask [2, 4, 5, 6, 7, 20], .auto 0] (some (pieceSem sha_Step.l0.T sha_Step.l0.os (sha_Step.l0 k k))) .nil .nil) (.nil))) (.node [] none (.node [] none (.nil) (.node [] none (.node [.mask [2, 4, 7, 107], .auto 0] (some (pieceSem sha_Step.l1.T sha_Step.l1.os (sha_Step.l1 k k))) .nil .nil) (.nil))) (.nil)))))
theorem sha_Step.body (k : Nat) : BodyIs (sha_Step.ctx k) Try.f129 (Func.code Try.f129) (sha_Step.ann k) sha_Step.tin sha_Step.tout (fun x K => sha_Step.c k x.1 x.2.1 K) := by
  intro ρ x K; kernel_rfl
theorem sha_Step.sem_ok (k : Nat) : SemOK Try.prog 129 (sha_Step.sem k) :=
  callPure_ok (C := sha_Step.ctx k) (sha_Step.gok k) Try.mix (c := Func.code Try.f129) (ann := sha_Step.ann k) (tin := sha_Step.tin) (tout := sha_Step.tout) (fun x K => sha_Step.c k x.1 x.2.1 K) Try.func129 (by kernel_rfl) (by kernel_rfl) (AnnOK.seq AnnOK.nil (AnnOK.seq AnnOK.nil (AnnOK.seq AnnOK.nil (AnnOK.seq (AnnOK.seq AnnOK.nil (AnnOK.block (AnnOK.loop (by kernel_rfl) (sha_Step.l0.ok k)))) (AnnOK.seq (AnnOK.seq AnnOK.nil (AnnOK.block (AnnOK.loop (by kernel_rfl) (sha_Step.l1.ok k)))) AnnOK.nil))))) (sha_Step.body k)

/-! 118 (*bedrock/sha.Hasher).Write · with blocks -/
abbrev sha_Hasher_Write.l0.σ : Type := ((List Int) × (Unit × (Int × Unit))) × (List Int) × Unit
abbrev sha_Hasher_Write.l0.τ : Type := (((List Int) × (Unit × (Int × Unit))) × (List Int) × Unit)
def sha_Hasher_Write.l0.r (k : Nat) {ρ : Type} (x : sha_Hasher_Write.l0.σ) (kn : sha_Hasher_Write.l0.σ → Option ρ) (ke : sha_Hasher_Write.l0.τ → Option ρ) : Option ρ :=
  let v2 : Int := (((List.length x.2.1) : Nat) : Int)
  bif (decide (v2 ≥ (64 : Int))) then (let v3 : (List Int) := x.1.1
  bif (decide (64 ≤ (List.length x.2.1))) then (let v4 : (List Int) := (List.take 64 (List.drop 0 x.2.1))
  (sha_Step k v3 v4).bind fun t5 => bif (decide (((0 : Int) ≤ (64 : Int)) ∧ (((64 : Int) ≤ (((List.length x.2.1) : Nat) : Int)) ∧ ((((List.length x.2.1) : Nat) : Int) ≤ (((List.length x.2.1) : Nat) : Int))))) then (kn ((t5.1, ((), (x.1.2.2.1, ()))), ((List.take (Int.toNat ((((List.length x.2.1) : Nat) : Int) - (64 : Int))) (List.drop 64 x.2.1)), ()))) else (none)) else (none)) else (ke ((x.1.1, ((), (x.1.2.2.1, ()))), (x.2.1, ())))
def sha_Hasher_Write.l0 (k : Nat) : Nat → sha_Hasher_Write.l0.σ → Option sha_Hasher_Write.l0.τ := loopJ (sha_Hasher_Write.l0.r k)
def sha_Hasher_Write.l0.T : StT := ⟨.ptr 0 [] :: us 52, [.pair (.dat (.arr 8 (.int .u32))) (.pair (.vsl 1) (.dat (.pair (.int .u64) .unit))), .vec (.int .u8)]⟩
def sha_Hasher_Write.l0.os : List Out := [⟨(.exit 0), [.mask [], .auto 1], ⟨us 53, [.pair (.dat (.arr 8 (.int .u32))) (.pair (.vsl 1) (.dat (.pair (.int .u64) .unit))), .vec (.int .u8)]⟩⟩]
abbrev sha_Hasher_Write.τ : Type := (((List Int) × (Unit × (Int × Unit))) × (List Int) × Unit)
def sha_Hasher_Write.c (k : Nat) {ρ : Type} (s : ByteArray) (b0 : ((List Int) × (Unit × (Int × Unit)))) (K : sha_Hasher_Write.τ → Option ρ) : Option ρ :=
  let v0 : Int := b0.2.2.1
  let v1 : Int := (IntKind.wrap IntKind.u64 (v0 + (IntKind.wrap IntKind.u64 (((ByteArray.size s) : Nat) : Int))))
  bif (Nat.ble ((List.length (ofBytes s)) * 1) 140737488355328) then ((sha_Hasher_Write.l0 k k ((b0.1, ((), (v1, ()))), ((ofBytes s), ()))).bind fun t6 => K ((t6.1.1, ((), (t6.1.2.2.1, ()))), (t6.2.1, ()))) else (none)
def sha_Hasher_Write (k : Nat) (s : ByteArray) (b0 : ((List Int) × (Unit × (Int × Unit)))) : Option sha_Hasher_Write.τ := sha_Hasher_Write.c k s b0 some
def sha_Hasher_Write.T : CallT := ⟨[.ptr 0 [], .dat .str], [.pair (.dat (.arr 8 (.int .u32))) (.pair (.nils) (.dat (.pair (.int .u64) .unit)))], 1⟩
def sha_Hasher_Write.os : List Out := [⟨.ret, [.auto 1], ⟨[], [.pair (.dat (.arr 8 (.int .u32))) (.pair (.vsl 1) (.dat (.pair (.int .u64) .unit))), .vec (.int .u8)]⟩⟩]
def sha_Hasher_Write.sem (k : Nat) : CallSem := callH sha_Hasher_Write.T sha_Hasher_Write.os fun x => sha_Hasher_Write k x.1 x.2.1
noncomputable def sha_Hasher_Write.ctx (k : Nat) : Ctx := ⟨Try.prog, gam [(129, (sha_Step.sem k))]⟩
theorem sha_Hasher_Write.gok (k : Nat) : ∀ f, SemOK Try.prog f ((sha_Hasher_Write.ctx k).Γ f) := (gam_cons (sha_Step.sem_ok k) gam_nil)
theorem sha_Hasher_Write.l0.round (k : Nat) : RoundIs (sha_Hasher_Write.ctx k) (codeAt (Func.code Try.f118) [1, 1, 1, 0, 0]) (.nil) sha_Hasher_Write.l0.T [.mask [0], .auto 1] sha_Hasher_Write.l0.os (sha_Hasher_Write.l0.r k) := by
  intro ρ x kn ke; kernel_rfl
theorem sha_Hasher_Write.l0.ok (k : Nat) : StOK 1 Try.prog (.loop (codeAt (Func.code Try.f118) [1, 1, 1, 0, 0])) (pieceSem sha_Hasher_Write.l0.T sha_Hasher_Write.l0.os (sha_Hasher_Write.l0 k k)) :=
  loop_ok (C := sha_Hasher_Write.ctx k) (sha_Hasher_Write.gok k) Try.mix AnnOK.nil (by kernel_rfl) (by kernel_rfl) (by kernel_rfl) (sha_Hasher_Write.l0.round k) k
def sha_Hasher_Write.ann (k : Nat) : Ann := .node [] none (.nil) (.node [] none (.nil) (.node [] none (.nil) (.node [] none (.node [.mask [0], .auto 1] (some (pieceSem sha_Hasher_Write.l0.T sha_Hasher_Write.l0.os (sha_Hasher_Write.l0 k k))) .nil .nil) (.nil))))
theorem sha_Hasher_Write.body (k : Nat) : BodyH (sha_Hasher_Write.ctx k) Try.f118 (Func.code Try.f118) (sha_Hasher_Write.ann k) sha_Hasher_Write.T sha_Hasher_Write.os (fun x K => sha_Hasher_Write.c k x.1 x.2.1 K) := by
  intro ρ x K; kernel_rfl
theorem sha_Hasher_Write.sem_ok (k : Nat) : SemOK Try.prog 118 (sha_Hasher_Write.sem k) :=
  callH_ok (C := sha_Hasher_Write.ctx k) (sha_Hasher_Write.gok k) Try.mix (c := Func.code Try.f118) (ann := sha_Hasher_Write.ann k) (T := sha_Hasher_Write.T) (os := sha_Hasher_Write.os) (fun x K => sha_Hasher_Write.c k x.1 x.2.1 K) Try.func118 (by kernel_rfl) (by kernel_rfl) (AnnOK.seq AnnOK.nil (AnnOK.seq AnnOK.nil (AnnOK.seq AnnOK.nil (AnnOK.block (AnnOK.loop (by kernel_rfl) (sha_Hasher_Write.l0.ok k)))))) (sha_Hasher_Write.body k) (by kernel_rfl) (by kernel_rfl) (by kernel_rfl)

/-! 130 (*bedrock/sha.Hasher).Clone · with blocks -/
abbrev sha_Hasher_Clone.τ : Type := (((List Int) × (Unit × (Int × Unit))) × (List Int) × ((List Int) × (Unit × (Int × Unit))) × (List Int) × Unit)
def sha_Hasher_Clone.c (k : Nat) {ρ : Type} (b0 : ((List Int) × (Unit × (Int × Unit)))) (b1 : (List Int)) (K : sha_Hasher_Clone.τ → Option ρ) : Option ρ :=
  let v0 : (List Int) := b0.1
  bif (Nat.ble ((List.length b1) * 1) 140737488355328) then (let v1 : Int := b0.2.2.1
  K ((b0.1, ((), (b0.2.2.1, ()))), (b1, ((v0, ((), (v1, ()))), (b1, ()))))) else (none)
def sha_Hasher_Clone (k : Nat) (b0 : ((List Int) × (Unit × (Int × Unit)))) (b1 : (List Int)) : Option sha_Hasher_Clone.τ := sha_Hasher_Clone.c k b0 b1 some
def sha_Hasher_Clone.T : CallT := ⟨[.ptr 0 []], [.pair (.dat (.arr 8 (.int .u32))) (.pair (.vsl 1) (.dat (.pair (.int .u64) .unit))), .vec (.int .u8)], 1⟩
def sha_Hasher_Clone.os : List Out := [⟨.ret, [.auto 1], ⟨[.ptr 2 []], [.pair (.dat (.arr 8 (.int .u32))) (.pair (.vsl 1) (.dat (.pair (.int .u64) .unit))), .vec (.int .u8), .pair (.dat (.arr 8 (.int .u32))) (.pair (.vsl 3) (.dat (.pair (.int .u64) .unit))), .vec (.int .u8)]⟩⟩]
def sha_Hasher_Clone.sem (k : Nat) : CallSem := callH sha_Hasher_Clone.T sha_Hasher_Clone.os fun x => sha_Hasher_Clone k x.1 x.2.1
noncomputable def sha_Hasher_Clone.ctx (k : Nat) : Ctx := ⟨Try.prog, gam []⟩
theorem sha_Hasher_Clone.gok (k : Nat) : ∀ f, SemOK Try.prog f ((sha_Hasher_Clone.ctx k).Γ f) := gam_nil
def sha_Hasher_Clone.ann (k : Nat) : Ann := .nil
theorem sha_Hasher_Clone.body (k : Nat) : BodyH (sha_Hasher_Clone.ctx k) Try.f130 (Func.code Try.f130) (sha_Hasher_Clone.ann k) sha_Hasher_Clone.T sha_Hasher_Clone.os (fun x K => sha_Hasher_Clone.c k x.1 x.2.1 K) := by
  intro ρ x K; kernel_rfl
theorem sha_Hasher_Clone.sem_ok (k : Nat) : SemOK Try.prog 130 (sha_Hasher_Clone.sem k) :=
  callH_ok (C := sha_Hasher_Clone.ctx k) (sha_Hasher_Clone.gok k) Try.mix (c := Func.code Try.f130) (ann := sha_Hasher_Clone.ann k) (T := sha_Hasher_Clone.T) (os := sha_Hasher_Clone.os) (fun x K => sha_Hasher_Clone.c k x.1 x.2.1 K) Try.func130 (by kernel_rfl) (by kernel_rfl) AnnOK.nil (sha_Hasher_Clone.body k) (by kernel_rfl) (by kernel_rfl) (by kernel_rfl)

/-! 131 bedrock/sha.Pad -/
abbrev sha_Pad.l0.σ : Type := Int × Int × (List Int) × Unit
abbrev sha_Pad.l0.τ : Type := ((List Int) × Unit)
def sha_Pad.l0.r (k : Nat) {ρ : Type} (x : sha_Pad.l0.σ) (kn : sha_Pad.l0.σ → Option ρ) (ke : sha_Pad.l0.τ → Option ρ) : Option ρ :=
  bif (decide (x.2.1 < (8 : Int))) then (let v5 : Int := (shlOp IntKind.u64 x.1 (3 : Int))
  let v6 : Int := (IntKind.wrap IntKind.i64 ((7 : Int) - x.2.1))
  let v7 : Int := (IntKind.wrap IntKind.i64 ((8 : Int) * v6))
  bif (decide ((0 : Int) ≤ v7)) then (bif (Nat.ble (((List.length x.2.2.1) + (List.length (List.set (List.replicate 1 (0 : Int)) 0 (IntKind.wrap IntKind.u8 (shrOp IntKind.u64 v5 v7))))) * 1) 140737488355328) then (let v8 : Int := (IntKind.wrap IntKind.i64 (x.2.1 + (1 : Int)))
  kn (x.1, (v8, ((x.2.2.1 ++ (List.set (List.replicate 1 (0 : Int)) 0 (IntKind.wrap IntKind.u8 (shrOp IntKind.u64 v5 v7)))), ())))) else (none)) else (none)) else (ke (x.2.2.1, ()))
def sha_Pad.l0 (k : Nat) : Nat → sha_Pad.l0.σ → Option sha_Pad.l0.τ := loopJ (sha_Pad.l0.r k)
def sha_Pad.l0.T : StT := ⟨.dat (.int .u64) :: us 3 ++ .vsl 0 :: us 14 ++ .dat (.int .i64) :: us 15, [.vec (.int .u8)]⟩
def sha_Pad.l0.os : List Out := [⟨(.exit 0), [.mask [4], .auto 0], ⟨us 4 ++ .vsl 0 :: us 30, [.vec (.int .u8)]⟩⟩]
def sha_Pad.c (k : Nat) {ρ : Type} (n : Int) (K : ByteArray × Unit → Option ρ) : Option ρ :=
  let v0 : Int := (IntKind.wrap IntKind.i64 (Int.tmod n (64 : Int)))
  let v1 : Int := (IntKind.wrap IntKind.i64 ((119 : Int) - v0))
  let v2 : Int := (IntKind.wrap IntKind.i64 ((1 : Int) + (Int.tmod v1 (64 : Int))))
  let v3 : Int := (IntKind.wrap IntKind.i64 ((1 : Int) + (Int.tmod v1 (64 : Int))))
  let v4 : Int := (IntKind.wrap IntKind.i64 (v3 + (8 : Int)))
  bif ((decide (((0 : Int) ≤ v2) ∧ (v2 ≤ v4))) && (Nat.ble ((Int.toNat v4) * 1) 140737488355328)) then (bif (decide (((0 : Int) ≤ (0 : Int)) ∧ ((0 : Int) < (((List.length (List.replicate (Int.toNat v2) (0 : Int))) : Nat) : Int)))) then ((sha_Pad.l0 k k (n, ((0 : Int), ((List.set (List.replicate (Int.toNat v2) (0 : Int)) 0 (128 : Int)), ())))).bind fun t9 => K ((bytesOf t9.1), ())) else (none)) else (none)
def sha_Pad (k : Nat) (n : Int) : Option (ByteArray × Unit) := sha_Pad.c k n some
def sha_Pad.tin : List Ty := [(.int .u64)]
def sha_Pad.tout : List Ty := [.str]
def sha_Pad.sem (k : Nat) : CallSem := callPure sha_Pad.tin sha_Pad.tout fun x => sha_Pad k x.1
noncomputable def sha_Pad.ctx (k : Nat) : Ctx := ⟨Try.prog, gam []⟩
theorem sha_Pad.gok (k : Nat) : ∀ f, SemOK Try.prog f ((sha_Pad.ctx k).Γ f) := gam_nil
theorem sha_Pad.l0.round (k : Nat) : RoundIs (sha_Pad.ctx k) (codeAt (Func.code Try.f131) [1, 1, 1, 1, 0, 1, 0, 0]) (.nil) sha_Pad.l0.T [.mask [0, 4, 19], .auto 0] sha_Pad.l0.os (sha_Pad.l0.r k) := by
  intro ρ x kn ke; kernel_rfl
theorem sha_Pad.l0.ok (k : Nat) : StOK 0 Try.prog (.loop (codeAt (Func.code Try.f131) [1, 1, 1, 1, 0, 1, 0, 0])) (pieceSem sha_Pad.l0.T sha_Pad.l0.os (sha_Pad.l0 k k)) :=
  loop_ok (C := sha_Pad.ctx k) (sha_Pad.gok k) Try.mix AnnOK.nil (by kernel_rfl) (by kernel_rfl) (by kernel_rfl) (sha_Pad.l0.round k) k
def sha_Pad.ann (k : Nat) : Ann := .node [] none (.nil) (.node [] none (.nil) (.node [] none (.nil) (.node [] none (.nil) (.node [] none (.node [] none (.nil) (.node [] none (.node [.mask [0, 4, 19], .auto 0] (some (pieceSem sha_Pad.l0.T sha_Pad.l0.os (sha_Pad.l0 k k))) .nil .nil) (.nil))) (.nil)))))
theorem sha_Pad.body (k : Nat) : BodyIs (sha_Pad.ctx k) Try.f131 (Func.code Try.f131) (sha_Pad.ann k) sha_Pad.tin sha_Pad.tout (fun x K => sha_Pad.c k x.1 K) := by
  intro ρ x K; kernel_rfl
theorem sha_Pad.sem_ok (k : Nat) : SemOK Try.prog 131 (sha_Pad.sem k) :=
  callPure_ok (C := sha_Pad.ctx k) (sha_Pad.gok k) Try.mix (c := Func.code Try.f131) (ann := sha_Pad.ann k) (tin := sha_Pad.tin) (tout := sha_Pad.tout) (fun x K => sha_Pad.c k x.1 K) Try.func131 (by kernel_rfl) (by kernel_rfl) (AnnOK.seq AnnOK.nil (AnnOK.seq AnnOK.nil (AnnOK.seq AnnOK.nil (AnnOK.seq AnnOK.nil (AnnOK.seq (AnnOK.seq AnnOK.nil (AnnOK.block (AnnOK.loop (by kernel_rfl) (sha_Pad.l0.ok k)))) AnnOK.nil))))) (sha_Pad.body k)

/-! 118 (*bedrock/sha.Hasher).Write · with blocks -/
abbrev sha_Hasher_Write_2.l0.σ : Type := ((List Int) × (Unit × (Int × Unit))) × (List Int) × Unit
abbrev sha_Hasher_Write_2.l0.τ : Type := (((List Int) × (Unit × (Int × Unit))) × (List Int) × Unit)
def sha_Hasher_Write_2.l0.r (k : Nat) {ρ : Type} (x : sha_Hasher_Write_2.l0.σ) (kn : sha_Hasher_Write_2.l0.σ → Option ρ) (ke : sha_Hasher_Write_2.l0.τ → Option ρ) : Option ρ :=
  let v2 : Int := (((List.length x.2.1) : Nat) : Int)
  bif (decide (v2 ≥ (64 : Int))) then (let v3 : (List Int) := x.1.1
  bif (decide (64 ≤ (List.length x.2.1))) then (let v4 : (List Int) := (List.take 64 (List.drop 0 x.2.1))
  (sha_Step k v3 v4).bind fun t5 => bif (decide (((0 : Int) ≤ (64 : Int)) ∧ (((64 : Int) ≤ (((List.length x.2.1) : Nat) : Int)) ∧ ((((List.length x.2.1) : Nat) : Int) ≤ (((List.length x.2.1) : Nat) : Int))))) then (kn ((t5.1, ((), (x.1.2.2.1, ()))), ((List.take (Int.toNat ((((List.length x.2.1) : Nat) : Int) - (64 : Int))) (List.drop 64 x.2.1)), ()))) else (none)) else (none)) else (ke ((x.1.1, ((), (x.1.2.2.1, ()))), (x.2.1, ())))
def sha_Hasher_Write_2.l0 (k : Nat) : Nat → sha_Hasher_Write_2.l0.σ → Option sha_Hasher_Write_2.l0.τ := loopJ (sha_Hasher_Write_2.l0.r k)
def sha_Hasher_Write_2.l0.T : StT := ⟨.ptr 0 [] :: us 52, [.pair (.dat (.arr 8 (.int .u32))) (.pair (.vsl 1) (.dat (.pair (.int .u64) .unit))), .vec (.int .u8)]⟩
def sha_Hasher_Write_2.l0.os : List Out := [⟨(.exit 0), [.mask [], .auto 1], ⟨us 53, [.pair (.dat (.arr 8 (.int .u32))) (.pair (.vsl 1) (.dat (.pair (.int .u64) .unit))), .vec (.int .u8)]⟩⟩]
abbrev sha_Hasher_Write_2.τ : Type := (((List Int) × (Unit × (Int × Unit))) × (List Int) × Unit)
def sha_Hasher_Write_2.c (k : Nat) {ρ : Type} (s : ByteArray) (b0 : ((List Int) × (Unit × (Int × Unit)))) (b1 : (List Int)) (K : sha_Hasher_Write_2.τ → Option ρ) : Option ρ :=
  let v0 : Int := b0.2.2.1
  let v1 : Int := (IntKind.wrap IntKind.u64 (v0 + (IntKind.wrap IntKind.u64 (((ByteArray.size s) : Nat) : Int))))
  bif (Nat.ble (((List.length b1) + (List.length (ofBytes s))) * 1) 140737488355328) then ((sha_Hasher_Write_2.l0 k k ((b0.1, ((), (v1, ()))), ((b1 ++ (ofBytes s)), ()))).bind fun t6 => K ((t6.1.1, ((), (t6.1.2.2.1, ()))), (t6.2.1, ()))) else (none)
def sha_Hasher_Write_2 (k : Nat) (s : ByteArray) (b0 : ((List Int) × (Unit × (Int × Unit)))) (b1 : (List Int)) : Option sha_Hasher_Write_2.τ := sha_Hasher_Write_2.c k s b0 b1 some
def sha_Hasher_Write_2.T : CallT := ⟨[.ptr 0 [], .dat .str], [.pair (.dat (.arr 8 (.int .u32))) (.pair (.vsl 1) (.dat (.pair (.int .u64) .unit))), .vec (.int .u8)], 1⟩
def sha_Hasher_Write_2.os : List Out := [⟨.ret, [.auto 1], ⟨[], [.pair (.dat (.arr 8 (.int .u32))) (.pair (.vsl 1) (.dat (.pair (.int .u64) .unit))), .vec (.int .u8)]⟩⟩]
def sha_Hasher_Write_2.sem (k : Nat) : CallSem := callH sha_Hasher_Write_2.T sha_Hasher_Write_2.os fun x => sha_Hasher_Write_2 k x.1 x.2.1 x.2.2.1
noncomputable def sha_Hasher_Write_2.ctx (k : Nat) : Ctx := ⟨Try.prog, gam [(129, (sha_Step.sem k))]⟩
theorem sha_Hasher_Write_2.gok (k : Nat) : ∀ f, SemOK Try.prog f ((sha_Hasher_Write_2.ctx k).Γ f) := (gam_cons (sha_Step.sem_ok k) gam_nil)
theorem sha_Hasher_Write_2.l0.round (k : Nat) : RoundIs (sha_Hasher_Write_2.ctx k) (codeAt (Func.code Try.f118) [1, 1, 1, 0, 0]) (.nil) sha_Hasher_Write_2.l0.T [.mask [0], .auto 1] sha_Hasher_Write_2.l0.os (sha_Hasher_Write_2.l0.r k) := by
  intro ρ x kn ke; kernel_rfl
theorem sha_Hasher_Write_2.l0.ok (k : Nat) : StOK 1 Try.prog (.loop (codeAt (Func.code Try.f118) [1, 1, 1, 0, 0])) (pieceSem sha_Hasher_Write_2.l0.T sha_Hasher_Write_2.l0.os (sha_Hasher_Write_2.l0 k k)) :=
  loop_ok (C := sha_Hasher_Write_2.ctx k) (sha_Hasher_Write_2.gok k) Try.mix AnnOK.nil (by kernel_rfl) (by kernel_rfl) (by kernel_rfl) (sha_Hasher_Write_2.l0.round k) k
def sha_Hasher_Write_2.ann (k : Nat) : Ann := .node [] none (.nil) (.node [] none (.nil) (.node [] none (.nil) (.node [] none (.node [.mask [0], .auto 1] (some (pieceSem sha_Hasher_Write_2.l0.T sha_Hasher_Write_2.l0.os (sha_Hasher_Write_2.l0 k k))) .nil .nil) (.nil))))
theorem sha_Hasher_Write_2.body (k : Nat) : BodyH (sha_Hasher_Write_2.ctx k) Try.f118 (Func.code Try.f118) (sha_Hasher_Write_2.ann k) sha_Hasher_Write_2.T sha_Hasher_Write_2.os (fun x K => sha_Hasher_Write_2.c k x.1 x.2.1 x.2.2.1 K) := by
  intro ρ x K; kernel_rfl
theorem sha_Hasher_Write_2.sem_ok (k : Nat) : SemOK Try.prog 118 (sha_Hasher_Write_2.sem k) :=
  callH_ok (C := sha_Hasher_Write_2.ctx k) (sha_Hasher_Write_2.gok k) Try.mix (c := Func.code Try.f118) (ann := sha_Hasher_Write_2.ann k) (T := sha_Hasher_Write_2.T) (os := sha_Hasher_Write_2.os) (fun x K => sha_Hasher_Write_2.c k x.1 x.2.1 x.2.2.1 K) Try.func118 (by kernel_rfl) (by kernel_rfl) (AnnOK.seq AnnOK.nil (AnnOK.seq AnnOK.nil (AnnOK.seq AnnOK.nil (AnnOK.block (AnnOK.loop (by kernel_rfl) (sha_Hasher_Write_2.l0.ok k)))))) (sha_Hasher_Write_2.body k) (by kernel_rfl) (by kernel_rfl) (by kernel_rfl)

/-! 119 (*bedrock/sha.Hasher).Sum · with blocks -/
abbrev sha_Hasher_Sum.l1.σ : Type := Int × Int × (List Int) × Int × Int × ((List Int) × (Unit × (Int × Unit))) × (List Int) × (List Int) × (List Int) × Unit
abbrev sha_Hasher_Sum.l1.τ : Type := ((List Int) × Int × ((List Int) × (Unit × (Int × Unit))) × (List Int) × (List Int) × (List Int) × Unit)
def sha_Hasher_Sum.l1.r (k : Nat) {ρ : Type} (x : sha_Hasher_Sum.l1.σ) (kn : sha_Hasher_Sum.l1.σ → Option ρ) (ke : sha_Hasher_Sum.l1.τ → Option ρ) : Option ρ :=
  bif (decide (x.2.2.2.2.1 < (4 : Int))) then (let v6 : Int := (IntKind.wrap IntKind.i64 ((4 : Int) * x.1))
  let v7 : Int := (IntKind.wrap IntKind.i64 (v6 + x.2.2.2.2.1))
  let v8 : Int := (IntKind.wrap IntKind.i64 ((3 : Int) - x.2.2.2.2.1))
  let v9 : Int := (IntKind.wrap IntKind.i64 ((8 : Int) * v8))
  bif (decide ((0 : Int) ≤ v9)) then (let v10 : Int := (shrOp IntKind.u32 x.2.1 v9)
  bif (decide (((0 : Int) ≤ v7) ∧ (v7 < ((32 : Nat) : Int)))) then (let v11 : Int := (IntKind.wrap IntKind.i64 (x.2.2.2.2.1 + (1 : Int)))
  kn (x.1, (x.2.1, (x.2.2.1, (x.2.2.2.1, (v11, ((x.2.2.2.2.2.1.1, ((), (x.2.2.2.2.2.1.2.2.1, ()))), (x.2.2.2.2.2.2.1, (x.2.2.2.2.2.2.2.1, ((List.set x.2.2.2.2.2.2.2.2.1 (Int.toNat v7) (IntKind.wrap IntKind.u8 v10)), ())))))))))) else (none)) else (none)) else (ke (x.2.2.1, (x.2.2.2.1, ((x.2.2.2.2.2.1.1, ((), (x.2.2.2.2.2.1.2.2.1, ()))), (x.2.2.2.2.2.2.1, (x.2.2.2.2.2.2.2.1, (x.2.2.2.2.2.2.2.2.1, ())))))))
def sha_Hasher_Sum.l1 (k : Nat) : Nat → sha_Hasher_Sum.l1.σ → Option sha_Hasher_Sum.l1.τ := loopJ (sha_Hasher_Sum.l1.r k)
def sha_Hasher_Sum.l1.T : StT := ⟨us 2 ++ .ptr 2 [] :: us 1 ++ .ptr 3 [] :: .dat (.int .i64) :: .dat (.int .u32) :: us 17 ++ .dat (.arr 8 (.int .u32)) :: .dat (.int .i64) :: us 3 ++ .dat (.int .i64) :: us 16, [.pair (.dat (.arr 8 (.int .u32))) (.pair (.vsl 1) (.dat (.pair (.int .u64) .unit))), .vec (.int .u8), .dat (.arr 32 (.int .u8)), .dat (.arr 32 (.int .u8))]⟩
def sha_Hasher_Sum.l1.os : List Out := [⟨(.exit 2), [.mask [2, 4, 24, 25], .auto 1], ⟨us 2 ++ .ptr 2 [] :: us 1 ++ .ptr 3 [] :: us 19 ++ .dat (.arr 8 (.int .u32)) :: .dat (.int .i64) :: us 20, [.pair (.dat (.arr 8 (.int .u32))) (.pair (.vsl 1) (.dat (.pair (.int .u64) .unit))), .vec (.int .u8), .dat (.arr 32 (.int .u8)), .dat (.arr 32 (.int .u8))]⟩⟩]
abbrev sha_Hasher_Sum.l0.σ : Type := (List Int) × Int × ((List Int) × (Unit × (Int × Unit))) × (List Int) × (List Int) × (List Int) × Unit
abbrev sha_Hasher_Sum.l0.τ : Type := (((List Int) × (Unit × (Int × Unit))) × (List Int) × (List Int) × (List Int) × Unit)
def sha_Hasher_Sum.l0.r (k : Nat) {ρ : Type} (x : sha_Hasher_Sum.l0.σ) (kn : sha_Hasher_Sum.l0.σ → Option ρ) (ke : sha_Hasher_Sum.l0.τ → Option ρ) : Option ρ :=
  bif (decide (x.2.1 < (8 : Int))) then (bif (decide (((0 : Int) ≤ x.2.1) ∧ (x.2.1 < ((8 : Nat) : Int)))) then (let v5 : Int := (List.getD x.1 (Int.toNat x.2.1) (0 : Int))
  (sha_Hasher_Sum.l1 k k (x.2.1, (v5, (x.1, (x.2.1, ((0 : Int), ((x.2.2.1.1, ((), (x.2.2.1.2.2.1, ()))), (x.2.2.2.1, (x.2.2.2.2.1, (x.2.2.2.2.2.1, ())))))))))).bind fun t12 => let v13 : Int := (IntKind.wrap IntKind.i64 (t12.2.1 + (1 : Int)))
  kn (t12.1, (v13, ((t12.2.2.1.1, ((), (t12.2.2.1.2.2.1, ()))), (t12.2.2.2.1, (t12.2.2.2.2.1, (t12.2.2.2.2.2.1, ()))))))) else (none)) else (ke ((x.2.2.1.1, ((), (x.2.2.1.2.2.1, ()))), (x.2.2.2.1, (x.2.2.2.2.1, (x.2.2.2.2.2.1, ())))))
def sha_Hasher_Sum.l0 (k : Nat) : Nat → sha_Hasher_Sum.l0.σ → Option sha_Hasher_Sum.l0.τ := loopJ (sha_Hasher_Sum.l0.r k)
def sha_Hasher_Sum.l0.T : StT := ⟨us 2 ++ .ptr 2 [] :: us 1 ++ .ptr 3 [] :: us 19 ++ .dat (.arr 8 (.int .u32)) :: .dat (.int .i64) :: us 20, [.pair (.dat (.arr 8 (.int .u32))) (.pair (.vsl 1) (.dat (.pair (.int .u64) .unit))), .vec (.int .u8), .dat (.arr 32 (.int .u8)), .dat (.arr 32 (.int .u8))]⟩
def sha_Hasher_Sum.l0.os : List Out := [⟨(.exit 0), [.mask [2, 4], .auto 1], ⟨us 2 ++ .ptr 2 [] :: us 1 ++ .ptr 3 [] :: us 41, [.pair (.dat (.arr 8 (.int .u32))) (.pair (.vsl 1) (.dat (.pair (.int .u64) .unit))), .vec (.int .u8), .dat (.arr 32 (.int .u8)), .dat (.arr 32 (.int .u8))]⟩⟩]
abbrev sha_Hasher_Sum.τ : Type := ((List Int) × ((List Int) × (Unit × (Int × Unit))) × (List Int) × Unit)
def sha_Hasher_Sum.c (k : Nat) {ρ : Type} (b0 : ((List Int) × (Unit × (Int × Unit)))) (b1 : (List Int)) (K : sha_Hasher_Sum.τ → Option ρ) : Option ρ :=
  (sha_Hasher_Clone k (b0.1, ((), (b0.2.2.1, ()))) b1).bind fun t0 => let v1 : Int := t0.1.2.2.1
  (sha_Pad k v1).bind fun t2 => (sha_Hasher_Write_2 k t2.1 (t0.2.2.1.1, ((), (t0.2.2.1.2.2.1, ()))) t0.2.2.2.1).bind fun t3 => let v4 : (List Int) := t3.1.1
  (sha_Hasher_Sum.l0 k k (v4, ((0 : Int), ((t0.1.1, ((), (t0.1.2.2.1, ()))), (t0.2.1, ((List.replicate 32 (0 : Int)), ((List.replicate 32 (0 : Int)), ()))))))).bind fun t14 => let v15 : (List Int) := t14.2.2.2.1
  K (v15, ((t14.1.1, ((), (t14.1.2.2.1, ()))), (t14.2.1, ())))
def sha_Hasher_Sum (k : Nat) (b0 : ((List Int) × (Unit × (Int × Unit)))) (b1 : (List Int)) : Option sha_Hasher_Sum.τ := sha_Hasher_Sum.c k b0 b1 some
def sha_Hasher_Sum.T : CallT := ⟨[.ptr 0 []], [.pair (.dat (.arr 8 (.int .u32))) (.pair (.vsl 1) (.dat (.pair (.int .u64) .unit))), .vec (.int .u8)], 1⟩
def sha_Hasher_Sum.os : List Out := [⟨.ret, [.freeze (.slot 0), .auto 1], ⟨[.dat (.arr 32 (.int .u8))], [.pair (.dat (.arr 8 (.int .u32))) (.pair (.vsl 1) (.dat (.pair (.int .u64) .unit))), .vec (.int .u8)]⟩⟩]
def sha_Hasher_Sum.sem (k : Nat) : CallSem := callH sha_Hasher_Sum.T sha_Hasher_Sum.os fun x => sha_Hasher_Sum k x.1 x.2.1
noncomputable def sha_Hasher_Sum.ctx (k : Nat) : Ctx := ⟨Try.prog, gam [(130, (sha_Hasher_Clone.sem k)), (131, (sha_Pad.sem k)), (118, (sha_Hasher_Write_2.sem k))]⟩
theorem sha_Hasher_Sum.gok (k : Nat) : ∀ f, SemOK Try.prog f ((sha_Hasher_Sum.ctx k).Γ f) := (gam_cons (sha_Hasher_Clone.sem_ok k) (gam_cons (sha_Pad.sem_ok k) (gam_cons (sha_Hasher_Write_2.sem_ok k) gam_nil)))
theorem sha_Hasher_Sum.l1.round (k : Nat) : RoundIs (sha_Hasher_Sum.ctx k) (codeAt (Func.code Try.f119) [1, 1, 1, 1, 1, 0, 1, 0, 0, 1, 1, 0, 0, 1, 1, 0, 0]) (.nil) sha_Hasher_Sum.l1.T [.mask [2, 4, 5, 6, 24, 25, 29], .auto 1] sha_Hasher_Sum.l1.os (sha_Hasher_Sum.l1.r k) := by
  intro ρ x kn ke; kernel_rfl
theorem sha_Hasher_Sum.l1.ok (k : Nat) : StOK 1 Try.prog (.loop (codeAt (Func.code Try.f119) [1, 1, 1, 1, 1, 0, 1, 0, 0, 1, 1, 0, 0, 1, 1, 0, 0])) (pieceSem sha_Hasher_Sum.l1.T sha_Hasher_Sum.l1.os (sha_Hasher_Sum.l1 k k)) :=
  loop_ok (C := sha_Hasher_Sum.ctx k) (sha_Hasher_Sum.gok k) Try.mix AnnOK.nil (by kernel_rfl) (by kernel_rfl) (by kernel_rfl) (sha_Hasher_Sum.l1.round k) k
theorem sha_Hasher_Sum.l0.round (k : Nat) : RoundIs (sha_Hasher_Sum.ctx k) (codeAt (Func.code Try.f119) [1, 1, 1, 1, 1, 0, 1, 0, 0]) (.node [] none (.nil) (.node [] none (.nil) (.node [] none (.node [] none (.node [] none (.nil) (.node [] none (.nil) (.node [] none (.node [.mask [2, 4, 5, 6, 24, 25, 29], .auto 1] (some (pieceSem sha_Hasher_Sum.l1.T sha_Hasher_Sum.l1.os (sha_Hasher_Sum.l1 k k))) .nil .nil) (.nil)))) (.nil)) (.nil)))) sha_Hasher_Sum.l0.T [.mask [2, 4, 24, 25], .auto 1] sha_Hasher_Sum.l0.os (sha_Hasher_Sum.l0.r k) := by
  intro ρ x kn ke; kernel_rfl
theorem sha_Hasher_Sum.l0.ok (k : Nat) : StOK 1 Try.prog (.loop (codeAt (Func.code Try.f119) [1, 1, 1, 1, 1, 0, 1, 0, 0])) (pieceSem sha_Hasher_Sum.l0.T sha_Hasher_Sum.l0.os (sha_Hasher_Sum.l0 k k)) :=
  loop_ok (C := sha_Hasher_Sum.ctx k) (sha_Hasher_Sum.gok k) Try.mix (AnnOK.seq AnnOK.nil (AnnOK.seq AnnOK.nil (AnnOK.seq (AnnOK.block (AnnOK.seq AnnOK.nil (AnnOK.seq AnnOK.nil (AnnOK.block (AnnOK.loop (by kernel_rfl) (sha_Hasher_Sum.l1.ok k)))))) AnnOK.nil))) (by kernel_rfl) (by kernel_rfl) (by kernel_rfl) (sha_Hasher_Sum.l0.round k) k
def sha_Hasher_Sum.ann (k : Nat) : Ann := .node [] none (.nil) (.node [] none (.nil) (.node [] none (.nil) (.node [] none (.nil) (.node [] none (.nil) (.node [] none (.node [] none (.nil) (.node [] none (.node [.mask [2, 4, 24, 25], .auto 1] (some (pieceSem sha_Hasher_Sum.l0.T sha_Hasher_Sum.l0.os (sha_Hasher_Sum.l0 k k))) .nil .nil) (.nil))) (.nil))))))
theorem sha_Hasher_Sum.body (k : Nat) : BodyH (sha_Hasher_Sum.ctx k) Try.f119 (Func.code Try.f119) (sha_Hasher_Sum.ann k) sha_Hasher_Sum.T sha_Hasher_Sum.os (fun x K => sha_Hasher_Sum.c k x.1 x.2.1 K) := by
  intro ρ x K; kernel_rfl
theorem sha_Hasher_Sum.sem_ok (k : Nat) : SemOK Try.prog 119 (sha_Hasher_Sum.sem k) :=
  callH_ok (C := sha_Hasher_Sum.ctx k) (sha_Hasher_Sum.gok k) Try.mix (c := Func.code Try.f119) (ann := sha_Hasher_Sum.ann k) (T := sha_Hasher_Sum.T) (os := sha_Hasher_Sum.os) (fun x K => sha_Hasher_Sum.c k x.1 x.2.1 K) Try.func119 (by kernel_rfl) (by kernel_rfl) (AnnOK.seq AnnOK.nil (AnnOK.seq AnnOK.nil (AnnOK.seq AnnOK.nil (AnnOK.seq AnnOK.nil (AnnOK.seq AnnOK.nil (AnnOK.seq (AnnOK.seq AnnOK.nil (AnnOK.block (AnnOK.loop (by kernel_rfl) (sha_Hasher_Sum.l0.ok k)))) AnnOK.nil)))))) (sha_Hasher_Sum.body k) (by kernel_rfl) (by kernel_rfl) (by kernel_rfl)

/-! 96 bedrock/sha.Sum -/
def sha_Sum.c (k : Nat) {ρ : Type} (s : ByteArray) (K : (List Int) × Unit → Option ρ) : Option ρ :=
  (sha_New k ).bind fun t0 => (sha_Hasher_Write k s (t0.1.1, ((), (t0.1.2.2.1, ())))).bind fun t1 => (sha_Hasher_Sum k (t1.1.1, ((), (t1.1.2.2.1, ()))) t1.2.1).bind fun t2 => K (t2.1, ())
def sha_Sum (k : Nat) (s : ByteArray) : Option ((List Int) × Unit) := sha_Sum.c k s some
def sha_Sum.tin : List Ty := [.str]
def sha_Sum.tout : List Ty := [(.arr 32 (.int .u8))]
def sha_Sum.sem (k : Nat) : CallSem := callPure sha_Sum.tin sha_Sum.tout fun x => sha_Sum k x.1
noncomputable def sha_Sum.ctx (k : Nat) : Ctx := ⟨Try.prog, gam [(117, (sha_New.sem k)), (118, (sha_Hasher_Write.sem k)), (119, (sha_Hasher_Sum.sem k))]⟩
theorem sha_Sum.gok (k : Nat) : ∀ f, SemOK Try.prog f ((sha_Sum.ctx k).Γ f) := (gam_cons (sha_New.sem_ok k) (gam_cons (sha_Hasher_Write.sem_ok k) (gam_cons (sha_Hasher_Sum.sem_ok k) gam_nil)))
def sha_Sum.ann (k : Nat) : Ann := .nil
theorem sha_Sum.body (k : Nat) : BodyIs (sha_Sum.ctx k) Try.f96 (Func.code Try.f96) (sha_Sum.ann k) sha_Sum.tin sha_Sum.tout (fun x K => sha_Sum.c k x.1 K) := by
  intro ρ x K; kernel_rfl
theorem sha_Sum.sem_ok (k : Nat) : SemOK Try.prog 96 (sha_Sum.sem k) :=
  callPure_ok (C := sha_Sum.ctx k) (sha_Sum.gok k) Try.mix (c := Func.code Try.f96) (ann := sha_Sum.ann k) (tin := sha_Sum.tin) (tout := sha_Sum.tout) (fun x K => sha_Sum.c k x.1 K) Try.func96 (by kernel_rfl) (by kernel_rfl) AnnOK.nil (sha_Sum.body k)

end Go.Am
