/- A part of a proof: a machine of abstract values that tells what functions of the program compute, and the plain facts on them. -/
import Derived.Test.YtpcjmcpghhmidaaAm7
import Derived.KernelRfl
set_option linter.unusedVariables false
set_option linter.unusedSimpArgs false
set_option linter.unnecessarySimpa false
set_option linter.unusedSectionVars false
namespace Go.Am
open Go Go.Proofs
set_option maxRecDepth 100000
/-! 66 (*bedrock/tx.taker).bytes · with blocks -/
abbrev tx_taker_bytes.τ : Type := (ByteArray × (ByteArray × (Int × (Int × (Int × Unit)))) × Unit)
def tx_taker_bytes.c (k : Nat) {ρ : Type} (n : Int) (b0 : (ByteArray × (Int × (Int × (Int × Unit))))) (K : tx_taker_bytes.τ → Option ρ) : Option ρ :=
  let v0 : Int := b0.2.2.2.1
  bif (v0 != (0 : Int)) then (K ((⟨(List.toArray [])⟩ : ByteArray), ((b0.1, (b0.2.1, (b0.2.2.1, (b0.2.2.2.1, ())))), ()))) else (let v1 : Int := b0.2.2.1
  let v2 : Int := b0.2.1
  let v3 : Int := (IntKind.wrap IntKind.i64 (v1 - v2))
  let v4 : Int := (IntKind.wrap IntKind.i64 ((4096 : Int) - v3))
  bif (decide (n > v4)) then (K ((⟨(List.toArray [])⟩ : ByteArray), ((b0.1, (b0.2.1, (b0.2.2.1, ((101 : Int), ())))), ()))) else (let v5 : ByteArray := b0.1
  let v6 : Int := b0.2.2.1
  let v7 : Int := (IntKind.wrap IntKind.i64 ((((ByteArray.size v5) : Nat) : Int) - v6))
  bif (decide (n > v7)) then (K ((⟨(List.toArray [])⟩ : ByteArray), ((b0.1, (b0.2.1, (b0.2.2.1, ((4 : Int), ())))), ()))) else (let v8 : Int := b0.2.2.1
  let v9 : Int := (IntKind.wrap IntKind.i64 (v8 + n))
  let v10 : ByteArray := b0.1
  let v11 : Int := (IntKind.wrap IntKind.i64 (v9 - n))
  bif (decide (((0 : Int) ≤ v11) ∧ ((v11 ≤ v9) ∧ (v9 ≤ (((ByteArray.size v10) : Nat) : Int))))) then (K ((ByteArray.extract v10 (Int.toNat v11) (Int.toNat v9)), ((b0.1, (b0.2.1, (v9, (b0.2.2.2.1, ())))), ()))) else (none))))
def tx_taker_bytes (k : Nat) (n : Int) (b0 : (ByteArray × (Int × (Int × (Int × Unit))))) : Option tx_taker_bytes.τ := tx_taker_bytes.c k n b0 some
def tx_taker_bytes.T : CallT := ⟨[.ptr 0 [], .dat (.int .i64)], [.dat (.pair .str (.pair (.int .i64) (.pair (.int .i64) (.pair (.int .i64) .unit))))], 1⟩
def tx_taker_bytes.os : List Out := [⟨.ret, [.freeze (.slot 0), .auto 1], ⟨[.dat .str], [.dat (.pair .str (.pair (.int .i64) (.pair (.int .i64) (.pair (.int .i64) .unit))))]⟩⟩]
def tx_taker_bytes.sem (k : Nat) : CallSem := callH tx_taker_bytes.T tx_taker_bytes.os fun x => tx_taker_bytes k x.1 x.2.1
noncomputable def tx_taker_bytes.ctx (k : Nat) : Ctx := ⟨Try.prog, gam []⟩
theorem tx_taker_bytes.gok (k : Nat) : ∀ f, SemOK Try.prog f ((tx_taker_bytes.ctx k).Γ f) := gam_nil
def tx_taker_bytes.ann (k : Nat) : Ann := .nil
theorem tx_taker_bytes.body (k : Nat) : BodyH (tx_taker_bytes.ctx k) Try.f66 (Func.code Try.f66) (tx_taker_bytes.ann k) tx_taker_bytes.T tx_taker_bytes.os (fun x K => tx_taker_bytes.c k x.1 x.2.1 K) := by
  intro ρ x K; kernel_rfl
theorem tx_taker_bytes.sem_ok (k : Nat) : SemOK Try.prog 66 (tx_taker_bytes.sem k) :=
  callH_ok (C := tx_taker_bytes.ctx k) (tx_taker_bytes.gok k) Try.mix (c := Func.code Try.f66) (ann := tx_taker_bytes.ann k) (T := tx_taker_bytes.T) (os := tx_taker_bytes.os) (fun x K => tx_taker_bytes.c k x.1 x.2.1 K) Try.func66 (by kernel_rfl) (by kernel_rfl) AnnOK.nil (tx_taker_bytes.body k) (by kernel_rfl) (by kernel_rfl) (by kernel_rfl)

/-! 99 (*bedrock/num.Reader).U32 · with blocks -/
abbrev num_Reader_U32.τ : Type := (Int × (ByteArray × (Int × (Int × Unit))) × Unit)
def num_Reader_U32.c (k : Nat) {ρ : Type} (b0 : (ByteArray × (Int × (Int × Unit)))) (K : num_Reader_U32.τ → Option ρ) : Option ρ :=
  (num_Reader_Bytes k (4 : Int) (b0.1, (b0.2.1, (b0.2.2.1, ())))).bind fun t0 => (num_take k t0.1).bind fun t1 => let v2 : Int := (IntKind.wrap IntKind.u32 t1.1)
  K (v2, ((t0.2.1.1, (t0.2.1.2.1, (t0.2.1.2.2.1, ()))), ()))
def num_Reader_U32 (k : Nat) (b0 : (ByteArray × (Int × (Int × Unit)))) : Option num_Reader_U32.τ := num_Reader_U32.c k b0 some
def num_Reader_U32.T : CallT := ⟨[.ptr 0 []], [.dat (.pair .str (.pair (.int .i64) (.pair (.int .i64) .unit)))], 1⟩
def num_Reader_U32.os : List Out := [⟨.ret, [.freeze (.slot 0), .auto 1], ⟨[.dat (.int .u32)], [.dat (.pair .str (.pair (.int .i64) (.pair (.int .i64) .unit)))]⟩⟩]
def num_Reader_U32.sem (k : Nat) : CallSem := callH num_Reader_U32.T num_Reader_U32.os fun x => num_Reader_U32 k x.1
noncomputable def num_Reader_U32.ctx (k : Nat) : Ctx := ⟨Try.prog, gam [(97, (num_Reader_Bytes.sem k)), (101, (num_take.sem k))]⟩
theorem num_Reader_U32.gok (k : Nat) : ∀ f, SemOK Try.prog f ((num_Reader_U32.ctx k).Γ f) := (gam_cons (num_Reader_Bytes.sem_ok k) (gam_cons (num_take.sem_ok k) gam_nil))
def num_Reader_U32.ann (k : Nat) : Ann := .nil
theorem num_Reader_U32.body (k : Nat) : BodyH (num_Reader_U32.ctx k) Try.f99 (Func.code Try.f99) (num_Reader_U32.ann k) num_Reader_U32.T num_Reader_U32.os (fun x K => num_Reader_U32.c k x.1 K) := by
  intro ρ x K; kernel_rfl
theorem num_Reader_U32.sem_ok (k : Nat) : SemOK Try.prog 99 (num_Reader_U32.sem k) :=
  callH_ok (C := num_Reader_U32.ctx k) (num_Reader_U32.gok k) Try.mix (c := Func.code Try.f99) (ann := num_Reader_U32.ann k) (T := num_Reader_U32.T) (os := num_Reader_U32.os) (fun x K => num_Reader_U32.c k x.1 K) Try.func99 (by kernel_rfl) (by kernel_rfl) AnnOK.nil (num_Reader_U32.body k) (by kernel_rfl) (by kernel_rfl) (by kernel_rfl)

/-! 64 (*bedrock/tx.taker).u32 · with blocks -/
abbrev tx_taker_u32.τ : Type := (Int × (ByteArray × (Int × (Int × (Int × Unit)))) × Unit)
def tx_taker_u32.c (k : Nat) {ρ : Type} (b0 : (ByteArray × (Int × (Int × (Int × Unit))))) (K : tx_taker_u32.τ → Option ρ) : Option ρ :=
  (tx_taker_bytes k (4 : Int) (b0.1, (b0.2.1, (b0.2.2.1, (b0.2.2.2.1, ()))))).bind fun t0 => (num_NewReader k t0.1).bind fun t1 => (num_Reader_U32 k (t1.1.1, (t1.1.2.1, (t1.1.2.2.1, ())))).bind fun t2 => K (t2.1, ((t0.2.1.1, (t0.2.1.2.1, (t0.2.1.2.2.1, (t0.2.1.2.2.2.1, ())))), ()))
def tx_taker_u32 (k : Nat) (b0 : (ByteArray × (Int × (Int × (Int × Unit))))) : Option tx_taker_u32.τ := tx_taker_u32.c k b0 some
def tx_taker_u32.T : CallT := ⟨[.ptr 0 []], [.dat (.pair .str (.pair (.int .i64) (.pair (.int .i64) (.pair (.int .i64) .unit))))], 1⟩
def tx_taker_u32.os : List Out := [⟨.ret, [.freeze (.slot 0), .auto 1], ⟨[.dat (.int .u32)], [.dat (.pair .str (.pair (.int .i64) (.pair (.int .i64) (.pair (.int .i64) .unit))))]⟩⟩]
def tx_taker_u32.sem (k : Nat) : CallSem := callH tx_taker_u32.T tx_taker_u32.os fun x => tx_taker_u32 k x.1
noncomputable def tx_taker_u32.ctx (k : Nat) : Ctx := ⟨Try.prog, gam [(66, (tx_taker_bytes.sem k)), (68, (num_NewReader.sem k)), (99, (num_Reader_U32.sem k))]⟩
theorem tx_taker_u32.gok (k : Nat) : ∀ f, SemOK Try.prog f ((tx_taker_u32.ctx k).Γ f) := (gam_cons (tx_taker_bytes.sem_ok k) (gam_cons (num_NewReader.sem_ok k) (gam_cons (num_Reader_U32.sem_ok k) gam_nil)))
def tx_taker_u32.ann (k : Nat) : Ann := .nil
theorem tx_taker_u32.body (k : Nat) : BodyH (tx_taker_u32.ctx k) Try.f64 (Func.code Try.f64) (tx_taker_u32.ann k) tx_taker_u32.T tx_taker_u32.os (fun x K => tx_taker_u32.c k x.1 K) := by
  intro ρ x K; kernel_rfl
theorem tx_taker_u32.sem_ok (k : Nat) : SemOK Try.prog 64 (tx_taker_u32.sem k) :=
  callH_ok (C := tx_taker_u32.ctx k) (tx_taker_u32.gok k) Try.mix (c := Func.code Try.f64) (ann := tx_taker_u32.ann k) (T := tx_taker_u32.T) (os := tx_taker_u32.os) (fun x K => tx_taker_u32.c k x.1 K) Try.func64 (by kernel_rfl) (by kernel_rfl) AnnOK.nil (tx_taker_u32.body k) (by kernel_rfl) (by kernel_rfl) (by kernel_rfl)

/-! 90 bedrock/num.CountLong -/
def num_CountLong.c (k : Nat) {ρ : Type} (n : Int) (K : Int × Unit → Option ρ) : Option ρ :=
  bif (decide (n < (253 : Int))) then (K ((1 : Int), ())) else (bif (decide (n < (65536 : Int))) then (K ((3 : Int), ())) else (bif (decide (n < (4294967296 : Int))) then (K ((5 : Int), ())) else (K ((9 : Int), ()))))
def num_CountLong (k : Nat) (n : Int) : Option (Int × Unit) := num_CountLong.c k n some
def num_CountLong.tin : List Ty := [(.int .u64)]
def num_CountLong.tout : List Ty := [(.int .i64)]
def num_CountLong.sem (k : Nat) : CallSem := callPure num_CountLong.tin num_CountLong.tout fun x => num_CountLong k x.1
noncomputable def num_CountLong.ctx (k : Nat) : Ctx := ⟨Try.prog, gam []⟩
theorem num_CountLong.gok (k : Nat) : ∀ f, SemOK Try.prog f ((num_CountLong.ctx k).Γ f) := gam_nil
def num_CountLong.ann (k : Nat) : Ann := .nil
theorem num_CountLong.body (k : Nat) : BodyIs (num_CountLong.ctx k) Try.f90 (Func.code Try.f90) (num_CountLong.ann k) num_CountLong.tin num_CountLong.tout (fun x K => num_CountLong.c k x.1 K) := by
  intro ρ x K; kernel_rfl
theorem num_CountLong.sem_ok (k : Nat) : SemOK Try.prog 90 (num_CountLong.sem k) :=
  callPure_ok (C := num_CountLong.ctx k) (num_CountLong.gok k) Try.mix (c := Func.code Try.f90) (ann := num_CountLong.ann k) (tin := num_CountLong.tin) (tout := num_CountLong.tout) (fun x K => num_CountLong.c k x.1 K) Try.func90 (by kernel_rfl) (by kernel_rfl) AnnOK.nil (num_CountLong.body k)

/-! 100 bedrock/num.TakeCount -/
abbrev num_TakeCount.p0.σ : Type := ByteArray × Int × Unit
abbrev num_TakeCount.p0.τ : Type := (Int × Int × Int × Unit) ⊕ (ByteArray × Int × Unit)
def num_TakeCount.p0.r (k : Nat) {ρ : Type} (x : num_TakeCount.p0.σ) (K : num_TakeCount.p0.τ → Option ρ) : Option ρ :=
  bif (decide (x.2.1 < (0 : Int))) then (K (.inl ((0 : Int), ((0 : Int), ((1 : Int), ()))))) else (let v0 : Int := (((ByteArray.size x.1) : Nat) : Int)
  bif (decide (x.2.1 > v0)) then (K (.inl ((0 : Int), ((0 : Int), ((1 : Int), ()))))) else (K (.inr (x.1, (x.2.1, ())))))
def num_TakeCount.p0 (k : Nat) (x : num_TakeCount.p0.σ) : Option num_TakeCount.p0.τ := num_TakeCount.p0.r k x some
def num_TakeCount.p0.T : StT := ⟨.dat .str :: .dat (.int .i64) :: us 50, []⟩
def num_TakeCount.p0.os : List Out := [⟨.ret, [.mask [4, 5, 6], .auto 0], ⟨us 4 ++ .dat (.int .u64) :: .dat (.int .i64) :: .dat (.int .i64) :: us 45, []⟩⟩, ⟨.normal, [.mask [0, 1], .auto 0], ⟨.dat .str :: .dat (.int .i64) :: us 50, []⟩⟩]
def num_TakeCount.c (k : Nat) {ρ : Type} (s : ByteArray) (at_1 : Int) (K : Int × Int × Int × Unit → Option ρ) : Option ρ :=
  (num_TakeCount.p0 k (s, (at_1, ()))).bind fun t1 => (match t1 with | .inl t2 => (K (t2.1, (t2.2.1, (t2.2.2.1, ())))) | .inr (t3) => (bif (decide (((0 : Int) ≤ t3.2.1) ∧ ((t3.2.1 ≤ (((ByteArray.size t3.1) : Nat) : Int)) ∧ ((((ByteArray.size t3.1) : Nat) : Int) ≤ (((ByteArray.size t3.1) : Nat) : Int))))) then (let v4 : ByteArray := (ByteArray.extract t3.1 (Int.toNat t3.2.1) (Int.toNat (((ByteArray.size t3.1) : Nat) : Int)))
  bif (strEq v4 (⟨(List.toArray [])⟩ : ByteArray)) then (K ((0 : Int), ((0 : Int), ((4 : Int), ())))) else (bif (decide (((0 : Int) ≤ (0 : Int)) ∧ ((0 : Int) < (((ByteArray.size v4) : Nat) : Int)))) then (bif (decide ((byteAt v4 0) < (253 : Int))) then (bif (decide (((0 : Int) ≤ (0 : Int)) ∧ ((0 : Int) < (((ByteArray.size v4) : Nat) : Int)))) then (let v5 : Int := (IntKind.wrap IntKind.i64 (t3.2.1 + (1 : Int)))
  K ((IntKind.wrap IntKind.u64 (byteAt v4 0)), (v5, ((0 : Int), ())))) else (none)) else (bif (decide (((0 : Int) ≤ (0 : Int)) ∧ ((0 : Int) < (((ByteArray.size v4) : Nat) : Int)))) then (let v6 : Int := (IntKind.wrap IntKind.u8 ((byteAt v4 0) - (253 : Int)))
  bif (decide ((0 : Int) ≤ v6)) then (let v7 : Int := (shlOp IntKind.i64 (2 : Int) v6)
  let v8 : Int := (IntKind.wrap IntKind.i64 ((1 : Int) + v7))
  bif (decide ((((ByteArray.size v4) : Nat) : Int) < v8)) then (K ((0 : Int), ((0 : Int), ((4 : Int), ())))) else (bif (decide (((0 : Int) ≤ (1 : Int)) ∧ (((1 : Int) ≤ v8) ∧ (v8 ≤ (((ByteArray.size v4) : Nat) : Int))))) then ((num_take k (ByteArray.extract v4 1 (Int.toNat v8))).bind fun t9 => (num_CountLong k t9.1).bind fun t10 => bif (t10.1 != v8) then (K ((0 : Int), ((0 : Int), ((6 : Int), ())))) else (let v11 : Int := (IntKind.wrap IntKind.i64 (t3.2.1 + v8))
  K (t9.1, (v11, ((0 : Int), ()))))) else (none))) else (none)) else (none))) else (none))) else (none)))
def num_TakeCount (k : Nat) (s : ByteArray) (at_1 : Int) : Option (Int × Int × Int × Unit) := num_TakeCount.c k s at_1 some
def num_TakeCount.tin : List Ty := [.str, (.int .i64)]
def num_TakeCount.tout : List Ty := [(.int .u64), (.int .i64), (.int .i64)]
def num_TakeCount.sem (k : Nat) : CallSem := callPure num_TakeCount.tin num_TakeCount.tout fun x => num_TakeCount k x.1 x.2.1
noncomputable def num_TakeCount.ctx (k : Nat) : Ctx := ⟨Try.prog, gam [(101, (num_take.sem k)), (90, (num_CountLong.sem k))]⟩
theorem num_TakeCount.gok (k : Nat) : ∀ f, SemOK Try.prog f ((num_TakeCount.ctx k).Γ f) := (gam_cons (num_take.sem_ok k) (gam_cons (num_CountLong.sem_ok k) gam_nil))
theorem num_TakeCount.p0.is (k : Nat) : PieceIs (num_TakeCount.ctx k) (codeAt (Func.code Try.f100) [1, 0]) (.nil) num_TakeCount.p0.T num_TakeCount.p0.os (num_TakeCount.p0.r k) := by
  intro ρ x K; kernel_rfl
theorem num_TakeCount.p0.ok (k : Nat) : StOK 0 Try.prog (codeAt (Func.code Try.f100) [1, 0]) (pieceSem num_TakeCount.p0.T num_TakeCount.p0.os (num_TakeCount.p0 k)) :=
  piece_ok (C := num_TakeCount.ctx k) (T := num_TakeCount.p0.T) (os := num_TakeCount.p0.os) (num_TakeCount.gok k) Try.mix (fun x K => num_TakeCount.p0.r k x K) AnnOK.nil (by kernel_rfl) (by kernel_rfl) (num_TakeCount.p0.is k)
def num_TakeCount.ann (k : Nat) : Ann := .node [] none (.nil) (.node [] none (.node [] (some (pieceSem num_TakeCount.p0.T num_TakeCount.p0.os (num_TakeCount.p0 k))) .nil .nil) (.nil))
theorem num_TakeCount.body (k : Nat) : BodyIs (num_TakeCount.ctx k) Try.f100 (Func.code Try.f100) (num_TakeCount.ann k) num_TakeCount.tin num_TakeCount.tout (fun x K => num_TakeCount.c k x.1 x.2.1 K) := by
  intro ρ x K; kernel_rfl
theorem num_TakeCount.sem_ok (k : Nat) : SemOK Try.prog 100 (num_TakeCount.sem k) :=
  callPure_ok (C := num_TakeCount.ctx k) (num_TakeCount.gok k) Try.mix (c := Func.code Try.f100) (ann := num_TakeCount.ann k) (tin := num_TakeCount.tin) (tout := num_TakeCount.tout) (fun x K => num_TakeCount.c k x.1 x.2.1 K) Try.func100 (by kernel_rfl) (by kernel_rfl) (AnnOK.seq AnnOK.nil (AnnOK.seq (AnnOK.loop (by kernel_rfl) (num_TakeCount.p0.ok k)) AnnOK.nil)) (num_TakeCount.body k)

/-! 65 (*bedrock/tx.taker).count · with blocks -/
abbrev tx_taker_count.p0.σ : Type := Int × Int × Int × (ByteArray × (Int × (Int × (Int × Unit)))) × Unit
abbrev tx_taker_count.p0.τ : Type := (Int × Int × Int × (ByteArray × (Int × (Int × (Int × Unit)))) × Unit)
def tx_taker_count.p0.r (k : Nat) {ρ : Type} (x : tx_taker_count.p0.σ) (K : tx_taker_count.p0.τ → Option ρ) : Option ρ :=
  let v0 : Int := x.2.2.2.1.2.2.2.1
  bif (v0 == (0 : Int)) then (let v1 : Int := x.2.2.2.1.2.2.1
  let v2 : ByteArray := x.2.2.2.1.1
  bif (decide (v1 < (((ByteArray.size v2) : Nat) : Int))) then (let v3 : ByteArray := x.2.2.2.1.1
  let v4 : Int := x.2.2.2.1.2.2.1
  bif (decide (((0 : Int) ≤ v4) ∧ (v4 < (((ByteArray.size v3) : Nat) : Int)))) then (bif ((byteAt v3 (Int.toNat v4)) == (253 : Int)) then (K (x.1, (x.2.1, ((3 : Int), ((x.2.2.2.1.1, (x.2.2.2.1.2.1, (x.2.2.2.1.2.2.1, (x.2.2.2.1.2.2.2.1, ())))), ()))))) else (bif ((byteAt v3 (Int.toNat v4)) == (254 : Int)) then (K (x.1, (x.2.1, ((5 : Int), ((x.2.2.2.1.1, (x.2.2.2.1.2.1, (x.2.2.2.1.2.2.1, (x.2.2.2.1.2.2.2.1, ())))), ()))))) else (bif ((byteAt v3 (Int.toNat v4)) == (255 : Int)) then (K (x.1, (x.2.1, ((9 : Int), ((x.2.2.2.1.1, (x.2.2.2.1.2.1, (x.2.2.2.1.2.2.1, (x.2.2.2.1.2.2.2.1, ())))), ()))))) else (K (x.1, (x.2.1, (x.2.2.1, ((x.2.2.2.1.1, (x.2.2.2.1.2.1, (x.2.2.2.1.2.2.1, (x.2.2.2.1.2.2.2.1, ())))), ())))))))) else (none)) else (K (x.1, (x.2.1, (x.2.2.1, ((x.2.2.2.1.1, (x.2.2.2.1.2.1, (x.2.2.2.1.2.2.1, (x.2.2.2.1.2.2.2.1, ())))), ())))))) else (K (x.1, (x.2.1, (x.2.2.1, ((x.2.2.2.1.1, (x.2.2.2.1.2.1, (x.2.2.2.1.2.2.1, (x.2.2.2.1.2.2.2.1, ())))), ())))))
def tx_taker_count.p0 (k : Nat) (x : tx_taker_count.p0.σ) : Option tx_taker_count.p0.τ := tx_taker_count.p0.r k x some
def tx_taker_count.p0.T : StT := ⟨.ptr 0 [] :: .dat (.int .i64) :: .dat (.int .i64) :: us 4 ++ .dat (.int .i64) :: us 68, [.dat (.pair .str (.pair (.int .i64) (.pair (.int .i64) (.pair (.int .i64) .unit))))]⟩
def tx_taker_count.p0.os : List Out := [⟨.normal, [.mask [0, 1, 2, 7], .auto 1], ⟨.ptr 0 [] :: .dat (.int .i64) :: .dat (.int .i64) :: us 4 ++ .dat (.int .i64) :: us 68, [.dat (.pair .str (.pair (.int .i64) (.pair (.int .i64) (.pair (.int .i64) .unit))))]⟩⟩]
abbrev tx_taker_count.τ : Type := (Int × (ByteArray × (Int × (Int × (Int × Unit)))) × Unit)
def tx_taker_count.c (k : Nat) {ρ : Type} (most : Int) (e : Int) (b0 : (ByteArray × (Int × (Int × (Int × Unit))))) (K : tx_taker_count.τ → Option ρ) : Option ρ :=
  (tx_taker_count.p0 k (most, (e, ((1 : Int), ((b0.1, (b0.2.1, (b0.2.2.1, (b0.2.2.2.1, ())))), ()))))).bind fun t5 => (tx_taker_bytes k t5.2.2.1 (t5.2.2.2.1.1, (t5.2.2.2.1.2.1, (t5.2.2.2.1.2.2.1, (t5.2.2.2.1.2.2.2.1, ()))))).bind fun t6 => let v7 : Int := t6.2.1.2.2.2.1
  bif (v7 != (0 : Int)) then (K ((0 : Int), ((t6.2.1.1, (t6.2.1.2.1, (t6.2.1.2.2.1, (t6.2.1.2.2.2.1, ())))), ()))) else ((num_TakeCount k t6.1 (0 : Int)).bind fun t8 => let v9 : Int := t8.1
  let v10 : Int := t8.2.1
  let v11 : Int := t8.2.2.1
  bif (v11 != (0 : Int)) then (K ((0 : Int), ((t6.2.1.1, (t6.2.1.2.1, (t6.2.1.2.2.1, (v11, ())))), ()))) else (let v12 : Int := (IntKind.wrap IntKind.u64 t5.1)
  bif (decide (v9 > v12)) then (K ((0 : Int), ((t6.2.1.1, (t6.2.1.2.1, (t6.2.1.2.2.1, (t5.2.1, ())))), ()))) else (K ((IntKind.wrap IntKind.i64 v9), ((t6.2.1.1, (t6.2.1.2.1, (t6.2.1.2.2.1, (t6.2.1.2.2.2.1, ())))), ())))))
def tx_taker_count (k : Nat) (most : Int) (e : Int) (b0 : (ByteArray × (Int × (Int × (Int × Unit))))) : Option tx_taker_count.τ := tx_taker_count.c k most e b0 some
def tx_taker_count.T : CallT := ⟨[.ptr 0 [], .dat (.int .i64), .dat (.int .i64)], [.dat (.pair .str (.pair (.int .i64) (.pair (.int .i64) (.pair (.int .i64) .unit))))], 1⟩
def tx_taker_count.os : List Out := [⟨.ret, [.freeze (.slot 0), .auto 1], ⟨[.dat (.int .i64)], [.dat (.pair .str (.pair (.int .i64) (.pair (.int .i64) (.pair (.int .i64) .unit))))]⟩⟩]
def tx_taker_count.sem (k : Nat) : CallSem := callH tx_taker_count.T tx_taker_count.os fun x => tx_taker_count k x.1 x.2.1 x.2.2.1
noncomputable def tx_taker_count.ctx (k : Nat) : Ctx := ⟨Try.prog, gam [(66, (tx_taker_bytes.sem k)), (100, (num_TakeCount.sem k))]⟩
theorem tx_taker_count.gok (k : Nat) : ∀ f, SemOK Try.prog f ((tx_taker_count.ctx k).Γ f) := (gam_cons (tx_taker_bytes.sem_ok k) (gam_cons (num_TakeCount.sem_ok k) gam_nil))
theorem tx_taker_count.p0.is (k : Nat) : PieceIs (tx_taker_count.ctx k) (codeAt (Func.code Try.f65) [1, 1, 0]) (.nil) tx_taker_count.p0.T tx_taker_count.p0.os (tx_taker_count.p0.r k) := by
  intro ρ x K; kernel_rfl
theorem tx_taker_count.p0.ok (k : Nat) : StOK 1 Try.prog (codeAt (Func.code Try.f65) [1, 1, 0]) (pieceSem tx_taker_count.p0.T tx_taker_count.p0.os (tx_taker_count.p0 k)) :=
  piece_ok (C := tx_taker_count.ctx k) (T := tx_taker_count.p0.T) (os := tx_taker_count.p0.os) (tx_taker_count.gok k) Try.mix (fun x K => tx_taker_count.p0.r k x K) AnnOK.nil (by kernel_rfl) (by kernel_rfl) (tx_taker_count.p0.is k)
def tx_taker_count.ann (k : Nat) : Ann := .node [] none (.nil) (.node [] none (.nil) (.node [] none (.node [.mask [0, 1, 2, 7], .auto 1] (some (pieceSem tx_taker_count.p0.T tx_taker_count.p0.os (tx_taker_count.p0 k))) .nil .nil) (.nil)))
theorem tx_taker_count.body (k : Nat) : BodyH (tx_taker_count.ctx k) Try.f65 (Func.code Try.f65) (tx_taker_count.ann k) tx_taker_count.T tx_taker_count.os (fun x K => tx_taker_count.c k x.1 x.2.1 x.2.2.1 K) := by
  intro ρ x K; kernel_rfl
theorem tx_taker_count.sem_ok (k : Nat) : SemOK Try.prog 65 (tx_taker_count.sem k) :=
  callH_ok (C := tx_taker_count.ctx k) (tx_taker_count.gok k) Try.mix (c := Func.code Try.f65) (ann := tx_taker_count.ann k) (T := tx_taker_count.T) (os := tx_taker_count.os) (fun x K => tx_taker_count.c k x.1 x.2.1 x.2.2.1 K) Try.func65 (by kernel_rfl) (by kernel_rfl) (AnnOK.seq AnnOK.nil (AnnOK.seq AnnOK.nil (AnnOK.seq (AnnOK.loop (by kernel_rfl) (tx_taker_count.p0.ok k)) AnnOK.nil))) (tx_taker_count.body k) (by kernel_rfl) (by kernel_rfl) (by kernel_rfl)

/-! 67 (*bedrock/tx.taker).script · with blocks -/
abbrev tx_taker_script.τ : Type := (ByteArray × (ByteArray × (Int × (Int × (Int × Unit)))) × Unit)
def tx_taker_script.c (k : Nat) {ρ : Type} (b0 : (ByteArray × (Int × (Int × (Int × Unit))))) (K : tx_taker_script.τ → Option ρ) : Option ρ :=
  (tx_taker_count k (520 : Int) (100 : Int) (b0.1, (b0.2.1, (b0.2.2.1, (b0.2.2.2.1, ()))))).bind fun t0 => (tx_taker_bytes k t0.1 (t0.2.1.1, (t0.2.1.2.1, (t0.2.1.2.2.1, (t0.2.1.2.2.2.1, ()))))).bind fun t1 => K (t1.1, ((t1.2.1.1, (t1.2.1.2.1, (t1.2.1.2.2.1, (t1.2.1.2.2.2.1, ())))), ()))
def tx_taker_script (k : Nat) (b0 : (ByteArray × (Int × (Int × (Int × Unit))))) : Option tx_taker_script.τ := tx_taker_script.c k b0 some
def tx_taker_script.T : CallT := ⟨[.ptr 0 []], [.dat (.pair .str (.pair (.int .i64) (.pair (.int .i64) (.pair (.int .i64) .unit))))], 1⟩
def tx_taker_script.os : List Out := [⟨.ret, [.freeze (.slot 0), .auto 1], ⟨[.dat .str], [.dat (.pair .str (.pair (.int .i64) (.pair (.int .i64) (.pair (.int .i64) .unit))))]⟩⟩]
def tx_taker_script.sem (k : Nat) : CallSem := callH tx_taker_script.T tx_taker_script.os fun x => tx_taker_script k x.1
noncomputable def tx_taker_script.ctx (k : Nat) : Ctx := ⟨Try.prog, gam [(65, (tx_taker_count.sem k)), (66, (tx_taker_bytes.sem k))]⟩
theorem tx_taker_script.gok (k : Nat) : ∀ f, SemOK Try.prog f ((tx_taker_script.ctx k).Γ f) := (gam_cons (tx_taker_count.sem_ok k) (gam_cons (tx_taker_bytes.sem_ok k) gam_nil))
def tx_taker_script.ann (k : Nat) : Ann := .nil
theorem tx_taker_script.body (k : Nat) : BodyH (tx_taker_script.ctx k) Try.f67 (Func.code Try.f67) (tx_taker_script.ann k) tx_taker_script.T tx_taker_script.os (fun x K => tx_taker_script.c k x.1 K) := by
  intro ρ x K; kernel_rfl
theorem tx_taker_script.sem_ok (k : Nat) : SemOK Try.prog 67 (tx_taker_script.sem k) :=
  callH_ok (C := tx_taker_script.ctx k) (tx_taker_script.gok k) Try.mix (c := Func.code Try.f67) (ann := tx_taker_script.ann k) (T := tx_taker_script.T) (os := tx_taker_script.os) (fun x K => tx_taker_script.c k x.1 K) Try.func67 (by kernel_rfl) (by kernel_rfl) AnnOK.nil (tx_taker_script.body k) (by kernel_rfl) (by kernel_rfl) (by kernel_rfl)

/-! 19 bedrock/tx.Take -/
abbrev tx_Take.p0.σ : Type := ByteArray × Int × (Int × (Unit × (Unit × (Int × Unit)))) × Unit
abbrev tx_Take.p0.τ : Type := (Int × Int × (Int × (Unit × (Unit × (Int × Unit)))) × Unit) ⊕ (ByteArray × Int × (Int × (Unit × (Unit × (Int × Unit)))) × Unit)
def tx_Take.p0.r (k : Nat) {ρ : Type} (x : tx_Take.p0.σ) (K : tx_Take.p0.τ → Option ρ) : Option ρ :=
  bif (decide (x.2.1 < (0 : Int))) then (K (.inl ((0 : Int), ((1 : Int), (((0 : Int), ((), ((), ((0 : Int), ())))), ()))))) else (let v0 : Int := (((ByteArray.size x.1) : Nat) : Int)
  bif (decide (x.2.1 > v0)) then (K (.inl ((0 : Int), ((1 : Int), (((0 : Int), ((), ((), ((0 : Int), ())))), ()))))) else (K (.inr (x.1, (x.2.1, ((x.2.2.1.1, ((), ((), (x.2.2.1.2.2.2.1, ())))), ()))))))
def tx_Take.p0 (k : Nat) (x : tx_Take.p0.σ) : Option tx_Take.p0.τ := tx_Take.p0.r k x some
def tx_Take.p0.T : StT := ⟨.dat .str :: .dat (.int .i64) :: us 2 ++ .ptr 0 [] :: us 105, [.pair (.dat (.int .u32)) (.pair (.nils) (.pair (.nils) (.dat (.pair (.int .u32) .unit))))]⟩
def tx_Take.p0.os : List Out := [⟨.ret, [.mask [4, 5, 6], .auto 0], ⟨us 4 ++ .ptr 0 [] :: .dat (.int .i64) :: .dat (.int .i64) :: us 103, [.pair (.dat (.int .u32)) (.pair (.nils) (.pair (.nils) (.dat (.pair (.int .u32) .unit))))]⟩⟩, ⟨.normal, [.mask [0, 1, 4], .auto 0], ⟨.dat .str :: .dat (.int .i64) :: us 2 ++ .ptr 0 [] :: us 105, [.pair (.dat (.int .u32)) (.pair (.nils) (.pair (.nils) (.dat (.pair (.int .u32) .unit))))]⟩⟩]
abbrev tx_Take.p2.σ : Type := Int × (Int × (Unit × (Unit × (Int × Unit)))) × (ByteArray × (Int × (Int × (Int × Unit)))) × (Int × (Unit × (Unit × (Int × Unit)))) × (List (((List Int) × (Int × Unit)) × (ByteArray × (Int × Unit)))) × Unit
abbrev tx_Take.p2.τ : Type := (Int × (Int × (Unit × (Unit × (Int × Unit)))) × (ByteArray × (Int × (Int × (Int × Unit)))) × (Int × (Unit × (Unit × (Int × Unit)))) × (List (((List Int) × (Int × Unit)) × (ByteArray × (Int × Unit)))) × Unit) ⊕ ((Int × (Unit × (Unit × (Int × Unit)))) × (ByteArray × (Int × (Int × (Int × Unit)))) × (Int × (Unit × (Unit × (Int × Unit)))) × (List (((List Int) × (Int × Unit)) × (ByteArray × (Int × Unit)))) × Unit)
def tx_Take.p2.r (k : Nat) {ρ : Type} (x : tx_Take.p2.σ) (K : tx_Take.p2.τ → Option ρ) : Option ρ :=
  bif (decide (x.1 > (0 : Int))) then (let v6 : Int := x.2.2.1.2.2.2.1
  bif (v6 == (0 : Int)) then (K (.inl (x.1, ((x.2.1.1, ((), ((), (x.2.1.2.2.2.1, ())))), ((x.2.2.1.1, (x.2.2.1.2.1, (x.2.2.1.2.2.1, (x.2.2.1.2.2.2.1, ())))), ((x.2.2.2.1.1, ((), ((), (x.2.2.2.1.2.2.2.1, ())))), (x.2.2.2.2.1, ()))))))) else (K (.inr ((x.2.1.1, ((), ((), (x.2.1.2.2.2.1, ())))), ((x.2.2.1.1, (x.2.2.1.2.1, (x.2.2.1.2.2.1, (x.2.2.1.2.2.2.1, ())))), ((x.2.2.2.1.1, ((), ((), (x.2.2.2.1.2.2.2.1, ())))), (x.2.2.2.2.1, ()))))))) else (K (.inr ((x.2.1.1, ((), ((), (x.2.1.2.2.2.1, ())))), ((x.2.2.1.1, (x.2.2.1.2.1, (x.2.2.1.2.2.1, (x.2.2.1.2.2.2.1, ())))), ((x.2.2.2.1.1, ((), ((), (x.2.2.2.1.2.2.2.1, ())))), (x.2.2.2.2.1, ()))))))
def tx_Take.p2 (k : Nat) (x : tx_Take.p2.σ) : Option tx_Take.p2.τ := tx_Take.p2.r k x some
def tx_Take.p2.T : StT := ⟨us 4 ++ .ptr 0 [] :: us 2 ++ .ptr 1 [] :: .ptr 2 [] :: .dat (.int .i64) :: us 100, [.pair (.dat (.int .u32)) (.pair (.nils) (.pair (.nils) (.dat (.pair (.int .u32) .unit)))), .dat (.pair .str (.pair (.int .i64) (.pair (.int .i64) (.pair (.int .i64) .unit)))), .pair (.dat (.int .u32)) (.pair (.vsl 3) (.pair (.nils) (.dat (.pair (.int .u32) .unit)))), .vec (.pair (.pair (.arr 32 (.int .u8)) (.pair (.int .u32) .unit)) (.pair .str (.pair (.int .u32) .unit)))]⟩
def tx_Take.p2.os : List Out := [⟨.normal, [.mask [4, 7, 8, 9], .auto 0], ⟨us 4 ++ .ptr 0 [] :: us 2 ++ .ptr 1 [] :: .ptr 2 [] :: .dat (.int .i64) :: us 100, [.pair (.dat (.int .u32)) (.pair (.nils) (.pair (.nils) (.dat (.pair (.int .u32) .unit)))), .dat (.pair .str (.pair (.int .i64) (.pair (.int .i64) (.pair (.int .i64) .unit)))), .pair (.dat (.int .u32)) (.pair (.vsl 3) (.pair (.nils) (.dat (.pair (.int .u32) .unit)))), .vec (.pair (.pair (.arr 32 (.int .u8)) (.pair (.int .u32) .unit)) (.pair .str (.pair (.int .u32) .unit)))]⟩⟩, ⟨(.exit 0), [.mask [4, 7, 8], .auto 0], ⟨us 4 ++ .ptr 0 [] :: us 2 ++ .ptr 1 [] :: .ptr 2 [] :: us 101, [.pair (.dat (.int .u32)) (.pair (.nils) (.pair (.nils) (.dat (.pair (.int .u32) .unit)))), .dat (.pair .str (.pair (.int .i64) (.pair (.int .i64) (.pair (.int .i64) .unit)))), .pair (.dat (.int .u32)) (.pair (.vsl 3) (.pair (.nils) (.dat (.pair (.int .u32) .unit)))), .vec (.pair (.pair (.arr 32 (.int .u8)) (.pair (.int .u32) .unit)) (.pair .str (.pair (.int .u32) .unit)))]⟩⟩]
abbrev tx_Take.l1.σ : Type := Int × (Int × (Unit × (Unit × (Int × Unit)))) × (ByteArray × (Int × (Int × (Int × Unit)))) × (Int × (Unit × (Unit × (Int × Unit)))) × (List (((List Int) × (Int × Unit)) × (ByteArray × (Int × Unit)))) × Unit
abbrev tx_Take.l1.τ : Type := ((Int × (Unit × (Unit × (Int × Unit)))) × (ByteArray × (Int × (Int × (Int × Unit)))) × (Int × (Unit × (Unit × (Int × Unit)))) × (List (((List Int) × (Int × Unit)) × (ByteArray × (Int × Unit)))) × Unit)
def tx_Take.l1.r (k : Nat) {ρ : Type} (x : tx_Take.l1.σ) (kn : tx_Take.l1.σ → Option ρ) (ke : tx_Take.l1.τ → Option ρ) : Option ρ :=
  (tx_Take.p2 k (x.1, ((x.2.1.1, ((), ((), (x.2.1.2.2.2.1, ())))), ((x.2.2.1.1, (x.2.2.1.2.1, (x.2.2.1.2.2.1, (x.2.2.1.2.2.2.1, ())))), ((x.2.2.2.1.1, ((), ((), (x.2.2.2.1.2.2.2.1, ())))), (x.2.2.2.2.1, ())))))).bind fun t7 => (match t7 with | .inl t8 => ((tx_taker_bytes k (32 : Int) (t8.2.2.1.1, (t8.2.2.1.2.1, (t8.2.2.1.2.2.1, (t8.2.2.1.2.2.2.1, ()))))).bind fun t9 => let v10 : Int := (((Min.min (List.length (ofBytes t9.1)) 32) : Nat) : Int)
  (tx_taker_u32 k (t9.2.1.1, (t9.2.1.2.1, (t9.2.1.2.2.1, (t9.2.1.2.2.2.1, ()))))).bind fun t11 => (tx_taker_script k (t11.2.1.1, (t11.2.1.2.1, (t11.2.1.2.2.1, (t11.2.1.2.2.2.1, ()))))).bind fun t12 => (tx_taker_u32 k (t12.2.1.1, (t12.2.1.2.1, (t12.2.1.2.2.1, (t12.2.1.2.2.2.1, ()))))).bind fun t13 => bif (Nat.ble (((List.length t8.2.2.2.2.1) + (List.length (List.set (List.replicate 1 (((List.replicate 32 (0 : Int)), ((0 : Int), ())), (ByteArray.empty, ((0 : Int), ())))) 0 (((copyL (List.replicate 32 (0 : Int)) 0 (ofBytes t9.1) (Min.min (List.length (ofBytes t9.1)) 32)), (t11.1, ())), (t12.1, (t13.1, ())))))) * 64) 140737488355328) then (let v14 : Int := (IntKind.wrap IntKind.i64 (t8.1 - (1 : Int)))
  kn (v14, ((t8.2.1.1, ((), ((), (t8.2.1.2.2.2.1, ())))), ((t13.2.1.1, (t13.2.1.2.1, (t13.2.1.2.2.1, (t13.2.1.2.2.2.1, ())))), ((t8.2.2.2.1.1, ((), ((), (t8.2.2.2.1.2.2.2.1, ())))), ((t8.2.2.2.2.1 ++ (List.set (List.replicate 1 (((List.replicate 32 (0 : Int)), ((0 : Int), ())), (ByteArray.empty, ((0 : Int), ())))) 0 (((copyL (List.replicate 32 (0 : Int)) 0 (ofBytes t9.1) (Min.min (List.length (ofBytes t9.1)) 32)), (t11.1, ())), (t12.1, (t13.1, ()))))), ())))))) else (none)) | .inr (t15) => (ke ((t15.1.1, ((), ((), (t15.1.2.2.2.1, ())))), ((t15.2.1.1, (t15.2.1.2.1, (t15.2.1.2.2.1, (t15.2.1.2.2.2.1, ())))), ((t15.2.2.1.1, ((), ((), (t15.2.2.1.2.2.2.1, ())))), (t15.2.2.2.1, ()))))))
def tx_Take.l1 (k : Nat) : Nat → tx_Take.l1.σ → Option tx_Take.l1.τ := loopJ (tx_Take.l1.r k)
def tx_Take.l1.T : StT := ⟨us 4 ++ .ptr 0 [] :: us 2 ++ .ptr 1 [] :: .ptr 2 [] :: .dat (.int .i64) :: us 100, [.pair (.dat (.int .u32)) (.pair (.nils) (.pair (.nils) (.dat (.pair (.int .u32) .unit)))), .dat (.pair .str (.pair (.int .i64) (.pair (.int .i64) (.pair (.int .i64) .unit)))), .pair (.dat (.int .u32)) (.pair (.vsl 3) (.pair (.nils) (.dat (.pair (.int .u32) .unit)))), .vec (.pair (.pair (.arr 32 (.int .u8)) (.pair (.int .u32) .unit)) (.pair .str (.pair (.int .u32) .unit)))]⟩
def tx_Take.l1.os : List Out := [⟨(.exit 0), [.mask [4, 7, 8], .auto 0], ⟨us 4 ++ .ptr 0 [] :: us 2 ++ .ptr 1 [] :: .ptr 2 [] :: us 101, [.pair (.dat (.int .u32)) (.pair (.nils) (.pair (.nils) (.dat (.pair (.int .u32) .unit)))), .dat (.pair .str (.pair (.int .i64) (.pair (.int .i64) (.pair (.int .i64) .unit)))), .pair (.dat (.int .u32)) (.pair (.vsl 3) (.pair (.nils) (.dat (.pair (.int .u32) .unit)))), .vec (.pair (.pair (.arr 32 (.int .u8)) (.pair (.int .u32) .unit)) (.pair .str (.pair (.int .u32) .unit)))]⟩⟩]
abbrev tx_Take.p4.σ : Type := Int × (Int × (Unit × (Unit × (Int × Unit)))) × (ByteArray × (Int × (Int × (Int × Unit)))) × (Int × (Unit × (Unit × (Int × Unit)))) × (List (((List Int) × (Int × Unit)) × (ByteArray × (Int × Unit)))) × (List (Int × (ByteArray × Unit))) × Unit
abbrev tx_Take.p4.τ : Type := (Int × (Int × (Unit × (Unit × (Int × Unit)))) × (ByteArray × (Int × (Int × (Int × Unit)))) × (Int × (Unit × (Unit × (Int × Unit)))) × (List (((List Int) × (Int × Unit)) × (ByteArray × (Int × Unit)))) × (List (Int × (ByteArray × Unit))) × Unit) ⊕ ((Int × (Unit × (Unit × (Int × Unit)))) × (ByteArray × (Int × (Int × (Int × Unit)))) × (Int × (Unit × (Unit × (Int × Unit)))) × (List (((List Int) × (Int × Unit)) × (ByteArray × (Int × Unit)))) × (List (Int × (ByteArray × Unit))) × Unit)
def tx_Take.p4.r (k : Nat) {ρ : Type} (x : tx_Take.p4.σ) (K : tx_Take.p4.τ → Option ρ) : Option ρ :=
  bif (decide (x.1 > (0 : Int))) then (let v18 : Int := x.2.2.1.2.2.2.1
  bif (v18 == (0 : Int)) then (K (.inl (x.1, ((x.2.1.1, ((), ((), (x.2.1.2.2.2.1, ())))), ((x.2.2.1.1, (x.2.2.1.2.1, (x.2.2.1.2.2.1, (x.2.2.1.2.2.2.1, ())))), ((x.2.2.2.1.1, ((), ((), (x.2.2.2.1.2.2.2.1, ())))), (x.2.2.2.2.1, (x.2.2.2.2.2.1, ())))))))) else (K (.inr ((x.2.1.1, ((), ((), (x.2.1.2.2.2.1, ())))), ((x.2.2.1.1, (x.2.2.1.2.1, (x.2.2.1.2.2.1, (x.2.2.1.2.2.2.1, ())))), ((x.2.2.2.1.1, ((), ((), (x.2.2.2.1.2.2.2.1, ())))), (x.2.2.2.2.1, (x.2.2.2.2.2.1, ())))))))) else (K (.inr ((x.2.1.1, ((), ((), (x.2.1.2.2.2.1, ())))), ((x.2.2.1.1, (x.2.2.1.2.1, (x.2.2.1.2.2.1, (x.2.2.1.2.2.2.1, ())))), ((x.2.2.2.1.1, ((), ((), (x.2.2.2.1.2.2.2.1, ())))), (x.2.2.2.2.1, (x.2.2.2.2.2.1, ())))))))
def tx_Take.p4 (k : Nat) (x : tx_Take.p4.σ) : Option tx_Take.p4.τ := tx_Take.p4.r k x some
def tx_Take.p4.T : StT := ⟨us 4 ++ .ptr 0 [] :: us 2 ++ .ptr 1 [] :: .ptr 2 [] :: us 2 ++ .dat (.int .i64) :: us 98, [.pair (.dat (.int .u32)) (.pair (.nils) (.pair (.nils) (.dat (.pair (.int .u32) .unit)))), .dat (.pair .str (.pair (.int .i64) (.pair (.int .i64) (.pair (.int .i64) .unit)))), .pair (.dat (.int .u32)) (.pair (.vsl 3) (.pair (.vsl 4) (.dat (.pair (.int .u32) .unit)))), .vec (.pair (.pair (.arr 32 (.int .u8)) (.pair (.int .u32) .unit)) (.pair .str (.pair (.int .u32) .unit))), .vec (.pair (.int .u64) (.pair .str .unit))]⟩
def tx_Take.p4.os : List Out := [⟨.normal, [.mask [4, 7, 8, 11], .auto 0], ⟨us 4 ++ .ptr 0 [] :: us 2 ++ .ptr 1 [] :: .ptr 2 [] :: us 2 ++ .dat (.int .i64) :: us 98, [.pair (.dat (.int .u32)) (.pair (.nils) (.pair (.nils) (.dat (.pair (.int .u32) .unit)))), .dat (.pair .str (.pair (.int .i64) (.pair (.int .i64) (.pair (.int .i64) .unit)))), .pair (.dat (.int .u32)) (.pair (.vsl 3) (.pair (.vsl 4) (.dat (.pair (.int .u32) .unit)))), .vec (.pair (.pair (.arr 32 (.int .u8)) (.pair (.int .u32) .unit)) (.pair .str (.pair (.int .u32) .unit))), .vec (.pair (.int .u64) (.pair .str .unit))]⟩⟩, ⟨(.exit 2), [.mask [4, 7, 8], .auto 0], ⟨us 4 ++ .ptr 0 [] :: us 2 ++ .ptr 1 [] :: .ptr 2 [] :: us 101, [.pair (.dat (.int .u32)) (.pair (.nils) (.pair (.nils) (.dat (.pair (.int .u32) .unit)))), .dat (.pair .str (.pair (.int .i64) (.pair (.int .i64) (.pair (.int .i64) .unit)))), .pair (.dat (.int .u32)) (.pair (.vsl 3) (.pair (.vsl 4) (.dat (.pair (.int .u32) .unit)))), .vec (.pair (.pair (.arr 32 (.int .u8)) (.pair (.int .u32) .unit)) (.pair .str (.pair (.int .u32) .unit))), .vec (.pair (.int .u64) (.pair .str .unit))]⟩⟩]
abbrev tx_Take.l3.σ : Type := Int × (Int × (Unit × (Unit × (Int × Unit)))) × (ByteArray × (Int × (Int × (Int × Unit)))) × (Int × (Unit × (Unit × (Int × Unit)))) × (List (((List Int) × (Int × Unit)) × (ByteArray × (Int × Unit)))) × (List (Int × (ByteArray × Unit))) × Unit
abbrev tx_Take.l3.τ : Type := ((Int × (Unit × (Unit × (Int × Unit)))) × (ByteArray × (Int × (Int × (Int × Unit)))) × (Int × (Unit × (Unit × (Int × Unit)))) × (List (((List Int) × (Int × Unit)) × (ByteArray × (Int × Unit)))) × (List (Int × (ByteArray × Unit))) × Unit)
def tx_Take.l3.r (k : Nat) {ρ : Type} (x : tx_Take.l3.σ) (kn : tx_Take.l3.σ → Option ρ) (ke : tx_Take.l3.τ → Option ρ) : Option ρ :=
  (tx_Take.p4 k (x.1, ((x.2.1.1, ((), ((), (x.2.1.2.2.2.1, ())))), ((x.2.2.1.1, (x.2.2.1.2.1, (x.2.2.1.2.2.1, (x.2.2.1.2.2.2.1, ())))), ((x.2.2.2.1.1, ((), ((), (x.2.2.2.1.2.2.2.1, ())))), (x.2.2.2.2.1, (x.2.2.2.2.2.1, ()))))))).bind fun t19 => (match t19 with | .inl t20 => ((tx_taker_bytes k (8 : Int) (t20.2.2.1.1, (t20.2.2.1.2.1, (t20.2.2.1.2.2.1, (t20.2.2.1.2.2.2.1, ()))))).bind fun t21 => (num_NewReader k t21.1).bind fun t22 => (num_Reader_U64 k (t22.1.1, (t22.1.2.1, (t22.1.2.2.1, ())))).bind fun t23 => (tx_taker_script k (t21.2.1.1, (t21.2.1.2.1, (t21.2.1.2.2.1, (t21.2.1.2.2.2.1, ()))))).bind fun t24 => bif (Nat.ble (((List.length t20.2.2.2.2.2.1) + (List.length (List.set (List.replicate 1 ((0 : Int), (ByteArray.empty, ()))) 0 (t23.1, (t24.1, ()))))) * 24) 140737488355328) then (let v25 : Int := (IntKind.wrap IntKind.i64 (t20.1 - (1 : Int)))
  kn (v25, ((t20.2.1.1, ((), ((), (t20.2.1.2.2.2.1, ())))), ((t24.2.1.1, (t24.2.1.2.1, (t24.2.1.2.2.1, (t24.2.1.2.2.2.1, ())))), ((t20.2.2.2.1.1, ((), ((), (t20.2.2.2.1.2.2.2.1, ())))), (t20.2.2.2.2.1, ((t20.2.2.2.2.2.1 ++ (List.set (List.replicate 1 ((0 : Int), (ByteArray.empty, ()))) 0 (t23.1, (t24.1, ())))), ()))))))) else (none)) | .inr (t26) => (ke ((t26.1.1, ((), ((), (t26.1.2.2.2.1, ())))), ((t26.2.1.1, (t26.2.1.2.1, (t26.2.1.2.2.1, (t26.2.1.2.2.2.1, ())))), ((t26.2.2.1.1, ((), ((), (t26.2.2.1.2.2.2.1, ())))), (t26.2.2.2.1, (t26.2.2.2.2.1, ())))))))
def tx_Take.l3 (k : Nat) : Nat → tx_Take.l3.σ → Option tx_Take.l3.τ := loopJ (tx_Take.l3.r k)
def tx_Take.l3.T : StT := ⟨us 4 ++ .ptr 0 [] :: us 2 ++ .ptr 1 [] :: .ptr 2 [] :: us 2 ++ .dat (.int .i64) :: us 98, [.pair (.dat (.int .u32)) (.pair (.nils) (.pair (.nils) (.dat (.pair (.int .u32) .unit)))), .dat (.pair .str (.pair (.int .i64) (.pair (.int .i64) (.pair (.int .i64) .unit)))), .pair (.dat (.int .u32)) (.pair (.vsl 3) (.pair (.vsl 4) (.dat (.pair (.int .u32) .unit)))), .vec (.pair (.pair (.arr 32 (.int .u8)) (.pair (.int .u32) .unit)) (.pair .str (.pair (.int .u32) .unit))), .vec (.pair (.int .u64) (.pair .str .unit))]⟩
def tx_Take.l3.os : List Out := [⟨(.exit 2), [.mask [4, 7, 8], .auto 0], ⟨us 4 ++ .ptr 0 [] :: us 2 ++ .ptr 1 [] :: .ptr 2 [] :: us 101, [.pair (.dat (.int .u32)) (.pair (.nils) (.pair (.nils) (.dat (.pair (.int .u32) .unit)))), .dat (.pair .str (.pair (.int .i64) (.pair (.int .i64) (.pair (.int .i64) .unit)))), .pair (.dat (.int .u32)) (.pair (.vsl 3) (.pair (.vsl 4) (.dat (.pair (.int .u32) .unit)))), .vec (.pair (.pair (.arr 32 (.int .u8)) (.pair (.int .u32) .unit)) (.pair .str (.pair (.int .u32) .unit))), .vec (.pair (.int .u64) (.pair .str .unit))]⟩⟩]
def tx_Take.c (k : Nat) {ρ : Type} (s : ByteArray) (at_1 : Int) (K : (Int × ((List (((List Int) × (Int × Unit)) × (ByteArray × (Int × Unit)))) × ((List (Int × (ByteArray × Unit))) × (Int × Unit)))) × Int × Int × Unit → Option ρ) : Option ρ :=
  (tx_Take.p0 k (s, (at_1, (((0 : Int), ((), ((), ((0 : Int), ())))), ())))).bind fun t1 => (match t1 with | .inl t2 => (K ((t2.2.2.1.1, ([], ([], (t2.2.2.1.2.2.2.1, ())))), (t2.1, (t2.2.1, ())))) | .inr (t3) => ((tx_taker_u32 k (t3.1, (t3.2.1, (t3.2.1, ((0 : Int), ()))))).bind fun t4 => (tx_taker_count k (4096 : Int) (5 : Int) (t4.2.1.1, (t4.2.1.2.1, (t4.2.1.2.2.1, (t4.2.1.2.2.2.1, ()))))).bind fun t5 => (tx_Take.l1 k k (t5.1, ((t3.2.2.1.1, ((), ((), (t3.2.2.1.2.2.2.1, ())))), ((t5.2.1.1, (t5.2.1.2.1, (t5.2.1.2.2.1, (t5.2.1.2.2.2.1, ())))), ((t4.1, ((), ((), ((0 : Int), ())))), ([], ())))))).bind fun t16 => (tx_taker_count k (4096 : Int) (5 : Int) (t16.2.1.1, (t16.2.1.2.1, (t16.2.1.2.2.1, (t16.2.1.2.2.2.1, ()))))).bind fun t17 => (tx_Take.l3 k k (t17.1, ((t16.1.1, ((), ((), (t16.1.2.2.2.1, ())))), ((t17.2.1.1, (t17.2.1.2.1, (t17.2.1.2.2.1, (t17.2.1.2.2.2.1, ())))), ((t16.2.2.1.1, ((), ((), (t16.2.2.1.2.2.2.1, ())))), (t16.2.2.2.1, ([], ()))))))).bind fun t27 => (tx_taker_u32 k (t27.2.1.1, (t27.2.1.2.1, (t27.2.1.2.2.1, (t27.2.1.2.2.2.1, ()))))).bind fun t28 => let v29 : Int := t28.2.1.2.2.2.1
  bif (v29 != (0 : Int)) then (let v30 : Int := t28.2.1.2.2.2.1
  K (((0 : Int), ([], ([], ((0 : Int), ())))), ((0 : Int), (v30, ())))) else (let v31 : Int := t28.2.1.2.2.1
  K ((t27.2.2.1.1, (t27.2.2.2.1, (t27.2.2.2.2.1, (t28.1, ())))), (v31, ((0 : Int), ()))))))
def tx_Take (k : Nat) (s : ByteArray) (at_1 : Int) : Option ((Int × ((List (((List Int) × (Int × Unit)) × (ByteArray × (Int × Unit)))) × ((List (Int × (ByteArray × Unit))) × (Int × Unit)))) × Int × Int × Unit) := tx_Take.c k s at_1 some
def tx_Take.tin : List Ty := [.str, (.int .i64)]
def tx_Take.tout : List Ty := [(.pair (.int .u32) (.pair (.sl (.pair (.pair (.arr 32 (.int .u8)) (.pair (.int .u32) .unit)) (.pair .str (.pair (.int .u32) .unit)))) (.pair (.sl (.pair (.int .u64) (.pair .str .unit))) (.pair (.int .u32) .unit)))), (.int .i64), (.int .i64)]
def tx_Take.sem (k : Nat) : CallSem := callPure tx_Take.tin tx_Take.tout fun x => tx_Take k x.1 x.2.1
noncomputable def tx_Take.ctx (k : Nat) : Ctx := ⟨Try.prog, gam [(64, (tx_taker_u32.sem k)), (65, (tx_taker_count.sem k)), (66, (tx_taker_bytes.sem k)), (67, (tx_taker_script.sem k)), (68, (num_NewReader.sem k)), (69, (num_Reader_U64.sem k))]⟩
theorem tx_Take.gok (k : Nat) : ∀ f, SemOK Try.prog f ((tx_Take.ctx k).Γ f) := (gam_cons (tx_taker_u32.sem_ok k) (gam_cons (tx_taker_count.sem_ok k) (gam_cons (tx_taker_bytes.sem_ok k) (gam_cons (tx_taker_script.sem_ok k) (gam_cons (num_NewReader.sem_ok k) (gam_cons (num_Reader_U64.sem_ok k) gam_nil))))))
theorem tx_Take.p0.is (k : Nat) : PieceIs (tx_Take.ctx k) (codeAt (Func.code Try.f19) [1, 0]) (.nil) tx_Take.p0.T tx_Take.p0.os (tx_Take.p0.r k) := by
  intro ρ x K; kernel_rfl
theorem tx_Take.p0.ok (k : Nat) : StOK 0 Try.prog (codeAt (Func.code Try.f19) [1, 0]) (pieceSem tx_Take.p0.T tx_Take.p0.os (tx_Take.p0 k)) :=
  piece_ok (C := tx_Take.ctx k) (T := tx_Take.p0.T) (os := tx_Take.p0.os) (tx_Take.gok k) Try.mix (fun x K => tx_Take.p0.r k x K) AnnOK.nil (by kernel_rfl) (by kernel_rfl) (tx_Take.p0.is k)
theorem tx_Take.p2.is (k : Nat) : PieceIs (tx_Take.ctx k) (codeAt (Func.code Try.f19) [1, 1, 1, 1, 1, 0, 1, 0, 0, 0]) (.nil) tx_Take.p2.T tx_Take.p2.os (tx_Take.p2.r k) := by
  intro ρ x K; kernel_rfl
theorem tx_Take.p2.ok (k : Nat) : StOK 0 Try.prog (codeAt (Func.code Try.f19) [1, 1, 1, 1, 1, 0, 1, 0, 0, 0]) (pieceSem tx_Take.p2.T tx_Take.p2.os (tx_Take.p2 k)) :=
  piece_ok (C := tx_Take.ctx k) (T := tx_Take.p2.T) (os := tx_Take.p2.os) (tx_Take.gok k) Try.mix (fun x K => tx_Take.p2.r k x K) AnnOK.nil (by kernel_rfl) (by kernel_rfl) (tx_Take.p2.is k)
theorem tx_Take.l1.round (k : Nat) : RoundIs (tx_Take.ctx k) (codeAt (Func.code Try.f19) [1, 1, 1, 1, 1, 0, 1, 0, 0]) (.node [] none (.node [.mask [4, 7, 8, 9], .auto 0] (some (pieceSem tx_Take.p2.T tx_Take.p2.os (tx_Take.p2 k))) .nil .nil) (.nil)) tx_Take.l1.T [.mask [4, 7, 8, 9], .auto 0] tx_Take.l1.os (tx_Take.l1.r k) := by
  intro ρ x kn ke; kernel_rfl
theorem tx_Take.l1.ok (k : Nat) : StOK 0 Try.prog (.loop (codeAt (Func.code Try.f19) [1, 1, 1, 1, 1, 0, 1, 0, 0])) (pieceSem tx_Take.l1.T tx_Take.l1.os (tx_Take.l1 k k)) :=
  loop_ok (C := tx_Take.ctx k) (tx_Take.gok k) Try.mix (AnnOK.seq (AnnOK.loop (by kernel_rfl) (tx_Take.p2.ok k)) AnnOK.nil) (by kernel_rfl) (by kernel_rfl) (by kernel_rfl) (tx_Take.l1.round k) k
theorem tx_Take.p4.is (k : Nat) : PieceIs (tx_Take.ctx k) (codeAt (Func.code Try.f19) [1, 1, 1, 1, 1, 1, 0, 1, 0, 0, 0]) (.nil) tx_Take.p4.T tx_Take.p4.os (tx_Take.p4.r k) := by
  intro ρ x K; kernel_rfl
theorem tx_Take.p4.ok (k : Nat) : StOK 0 Try.prog (codeAt (Func.code Try.f19) [1, 1, 1, 1, 1, 1, 0, 1, 0, 0, 0]) (pieceSem tx_Take.p4.T tx_Take.p4.os (tx_Take.p4 k)) :=
  piece_ok (C := tx_Take.ctx k) (T := tx_Take.p4.T) (os := tx_Take.p4.os) (tx_Take.gok k) Try.mix (fun x K => tx_Take.p4.r k x K) AnnOK.nil (by kernel_rfl) (by kernel_rfl) (tx_Take.p4.is k)
theorem tx_Take.l3.round (k : Nat) : RoundIs (tx_Take.ctx k) (codeAt (Func.code Try.f19) [1, 1, 1, 1, 1, 1, 0, 1, 0, 0]) (.node [] none (.node [.mask [4, 7, 8, 11], .auto 0] (some (pieceSem tx_Take.p4.T tx_Take.p4.os (tx_Take.p4 k))) .nil .nil) (.nil)) tx_Take.l3.T [.mask [4, 7, 8, 11], .auto 0] tx_Take.l3.os (tx_Take.l3.r k) := by
  intro ρ x kn ke; kernel_rfl
theorem tx_Take.l3.ok (k : Nat) : StOK 0 Try.prog (.loop (codeAt (Func.code Try.f19) [1, 1, 1, 1, 1, 1, 0, 1, 0, 0])) (pieceSem tx_Take.l3.T tx_Take.l3.os (tx_Take.l3 k k)) :=
  loop_ok (C := tx_Take.ctx k) (tx_Take.gok k) Try.mix (AnnOK.seq (AnnOK.loop (by kernel_rfl) (tx_Take.p4.ok k)) AnnOK.nil) (by kernel_rfl) (by kernel_rfl) (by kernel_rfl) (tx_Take.l3.round k) k
def tx_Take.ann (k : Nat) : Ann := .node [] none (.nil) (.node [] none (.node [.mask [0, 1, 4], .auto 0] (some (pieceSem tx_Take.p0.T tx_Take.p0.os (tx_Take.p0 k))) .nil .nil) (.node [] none (.nil) (.node [] none (.nil) (.node [] none (.nil) (.node [] none (.node [] none (.nil) (.node [] none (.node [.mask [4, 7, 8, 9], .auto 0, .own (.blk 2 [1]) (.pair (.pair (.arr 32 (.int .u8)) (.pair (.int .u32) .unit)) (.pair .str (.pair (.int .u32) .unit)))] (some (pieceSem tx_Take.l1.T tx_Take.l1.os (tx_Take.l1 k k))) .nil .nil) (.nil))) (.node [] none (.node [] none (.nil) (.node [] none (.node [.mask [4, 7, 8, 11], .auto 0, .own (.blk 2 [2]) (.pair (.int .u64) (.pair .str .unit))] (some (pieceSem tx_Take.l3.T tx_Take.l3.os (tx_Take.l3 k k))) .nil .nil) (.nil))) (.nil)))))))
theorem tx_Take.body (k : Nat) : BodyIs (tx_Take.ctx k) Try.f19 (Func.code Try.f19) (tx_Take.ann k) tx_Take.tin tx_Take.tout (fun x K => tx_Take.c k x.1 x.2.1 K) := by
  intro ρ x K; kernel_rfl
theorem tx_Take.sem_ok (k : Nat) : SemOK Try.prog 19 (tx_Take.sem k) :=
  callPure_ok (C := tx_Take.ctx k) (tx_Take.gok k) Try.mix (c := Func.code Try.f19) (ann := tx_Take.ann k) (tin := tx_Take.tin) (tout := tx_Take.tout) (fun x K => tx_Take.c k x.1 x.2.1 K) Try.func19 (by kernel_rfl) (by kernel_rfl) (AnnOK.seq AnnOK.nil (AnnOK.seq (AnnOK.loop (by kernel_rfl) (tx_Take.p0.ok k)) (AnnOK.seq AnnOK.nil (AnnOK.seq AnnOK.nil (AnnOK.seq AnnOK.nil (AnnOK.seq (AnnOK.seq AnnOK.nil (AnnOK.block (AnnOK.loop (by kernel_rfl) (tx_Take.l1.ok k)))) (AnnOK.seq (AnnOK.seq AnnOK.nil (AnnOK.block (AnnOK.loop (by kernel_rfl) (tx_Take.l3.ok k)))) AnnOK.nil))))))) (tx_Take.body k)

/-! 72 bedrock/bedrockref10.bytes -/
def bedrockref10_bytes.c (k : Nat) {ρ : Type} (r : (ByteArray × (Int × (Int × (Int × Unit))))) (n : Int) (K : (ByteArray × (Int × (Int × (Int × Unit)))) × ByteArray × Unit → Option ρ) : Option ρ :=
  let v0 : Int := r.2.2.2.1
  bif (v0 != (0 : Int)) then (K ((r.1, (r.2.1, (r.2.2.1, (r.2.2.2.1, ())))), ((⟨(List.toArray [])⟩ : ByteArray), ()))) else (let v1 : Int := r.2.2.1
  let v2 : Int := r.2.1
  let v3 : Int := (IntKind.wrap IntKind.i64 (v1 - v2))
  let v4 : Int := (IntKind.wrap IntKind.i64 (v3 + n))
  bif (decide (v4 > (4096 : Int))) then (K ((r.1, (r.2.1, (r.2.2.1, ((101 : Int), ())))), ((⟨(List.toArray [])⟩ : ByteArray), ()))) else (let v5 : ByteArray := r.1
  let v6 : Int := r.2.2.1
  let v7 : Int := (IntKind.wrap IntKind.i64 ((((ByteArray.size v5) : Nat) : Int) - v6))
  bif (decide (v7 < n)) then (K ((r.1, (r.2.1, (r.2.2.1, ((4 : Int), ())))), ((⟨(List.toArray [])⟩ : ByteArray), ()))) else (let v8 : Int := r.2.2.1
  let v9 : Int := (IntKind.wrap IntKind.i64 (v8 + n))
  let v10 : ByteArray := r.1
  let v11 : Int := (IntKind.wrap IntKind.i64 (v9 - n))
  bif (decide (((0 : Int) ≤ v11) ∧ ((v11 ≤ v9) ∧ (v9 ≤ (((ByteArray.size v10) : Nat) : Int))))) then (K ((r.1, (r.2.1, (v9, (r.2.2.2.1, ())))), ((ByteArray.extract v10 (Int.toNat v11) (Int.toNat v9)), ()))) else (none))))
def bedrockref10_bytes (k : Nat) (r : (ByteArray × (Int × (Int × (Int × Unit))))) (n : Int) : Option ((ByteArray × (Int × (Int × (Int × Unit)))) × ByteArray × Unit) := bedrockref10_bytes.c k r n some
def bedrockref10_bytes.tin : List Ty := [(.pair .str (.pair (.int .i64) (.pair (.int .i64) (.pair (.int .i64) .unit)))), (.int .i64)]
def bedrockref10_bytes.tout : List Ty := [(.pair .str (.pair (.int .i64) (.pair (.int .i64) (.pair (.int .i64) .unit)))), .str]
def bedrockref10_bytes.sem (k : Nat) : CallSem := callPure bedrockref10_bytes.tin bedrockref10_bytes.tout fun x => bedrockref10_bytes k x.1 x.2.1
noncomputable def bedrockref10_bytes.ctx (k : Nat) : Ctx := ⟨Try.prog, gam []⟩
theorem bedrockref10_bytes.gok (k : Nat) : ∀ f, SemOK Try.prog f ((bedrockref10_bytes.ctx k).Γ f) := gam_nil
def bedrockref10_bytes.ann (k : Nat) : Ann := .nil
theorem bedrockref10_bytes.body (k : Nat) : BodyIs (bedrockref10_bytes.ctx k) Try.f72 (Func.code Try.f72) (bedrockref10_bytes.ann k) bedrockref10_bytes.tin bedrockref10_bytes.tout (fun x K => bedrockref10_bytes.c k x.1 x.2.1 K) := by
  intro ρ x K; kernel_rfl
theorem bedrockref10_bytes.sem_ok (k : Nat) : SemOK Try.prog 72 (bedrockref10_bytes.sem k) :=
  callPure_ok (C := bedrockref10_bytes.ctx k) (bedrockref10_bytes.gok k) Try.mix (c := Func.code Try.f72) (ann := bedrockref10_bytes.ann k) (tin := bedrockref10_bytes.tin) (tout := bedrockref10_bytes.tout) (fun x K => bedrockref10_bytes.c k x.1 x.2.1 K) Try.func72 (by kernel_rfl) (by kernel_rfl) AnnOK.nil (bedrockref10_bytes.body k)

/-! 70 bedrock/bedrockref10.number -/
abbrev bedrockref10_number.l0.σ : Type := ByteArray × Int × Int × (ByteArray × (Int × (Int × (Int × Unit)))) × (ByteArray × (Int × (Int × (Int × Unit)))) × Unit
abbrev bedrockref10_number.l0.τ : Type := (Int × (ByteArray × (Int × (Int × (Int × Unit)))) × (ByteArray × (Int × (Int × (Int × Unit)))) × Unit)
def bedrockref10_number.l0.r (k : Nat) {ρ : Type} (x : bedrockref10_number.l0.σ) (kn : bedrockref10_number.l0.σ → Option ρ) (ke : bedrockref10_number.l0.τ → Option ρ) : Option ρ :=
  bif (decide (x.2.2.1 ≥ (0 : Int))) then (let v3 : Int := (IntKind.wrap IntKind.u64 ((256 : Int) * x.2.1))
  bif (decide (((0 : Int) ≤ x.2.2.1) ∧ (x.2.2.1 < (((ByteArray.size x.1) : Nat) : Int)))) then (let v4 : Int := (byteAt x.1 (Int.toNat x.2.2.1))
  let v5 : Int := (IntKind.wrap IntKind.u64 (v3 + (IntKind.wrap IntKind.u64 v4)))
  let v6 : Int := (IntKind.wrap IntKind.i64 (x.2.2.1 - (1 : Int)))
  kn (x.1, (v5, (v6, ((x.2.2.2.1.1, (x.2.2.2.1.2.1, (x.2.2.2.1.2.2.1, (x.2.2.2.1.2.2.2.1, ())))), ((x.2.2.2.2.1.1, (x.2.2.2.2.1.2.1, (x.2.2.2.2.1.2.2.1, (x.2.2.2.2.1.2.2.2.1, ())))), ())))))) else (none)) else (ke (x.2.1, ((x.2.2.2.1.1, (x.2.2.2.1.2.1, (x.2.2.2.1.2.2.1, (x.2.2.2.1.2.2.2.1, ())))), ((x.2.2.2.2.1.1, (x.2.2.2.2.1.2.1, (x.2.2.2.2.1.2.2.1, (x.2.2.2.2.1.2.2.2.1, ())))), ()))))
def bedrockref10_number.l0 (k : Nat) : Nat → bedrockref10_number.l0.σ → Option bedrockref10_number.l0.τ := loopJ (bedrockref10_number.l0.r k)
def bedrockref10_number.l0.T : StT := ⟨us 2 ++ .ptr 0 [] :: us 1 ++ .ptr 1 [] :: us 1 ++ .dat .str :: .dat (.int .u64) :: .dat (.int .i64) :: us 22, [.dat (.pair .str (.pair (.int .i64) (.pair (.int .i64) (.pair (.int .i64) .unit)))), .dat (.pair .str (.pair (.int .i64) (.pair (.int .i64) (.pair (.int .i64) .unit))))]⟩
def bedrockref10_number.l0.os : List Out := [⟨(.exit 0), [.mask [2, 4, 7], .auto 0], ⟨us 2 ++ .ptr 0 [] :: us 1 ++ .ptr 1 [] :: us 2 ++ .dat (.int .u64) :: us 23, [.dat (.pair .str (.pair (.int .i64) (.pair (.int .i64) (.pair (.int .i64) .unit)))), .dat (.pair .str (.pair (.int .i64) (.pair (.int .i64) (.pair (.int .i64) .unit))))]⟩⟩]
def bedrockref10_number.c (k : Nat) {ρ : Type} (r : (ByteArray × (Int × (Int × (Int × Unit))))) (n : Int) (K : (ByteArray × (Int × (Int × (Int × Unit)))) × Int × Unit → Option ρ) : Option ρ :=
  (bedrockref10_bytes k (r.1, (r.2.1, (r.2.2.1, (r.2.2.2.1, ())))) n).bind fun t0 => let v1 : ByteArray := t0.2.1
  let v2 : Int := (IntKind.wrap IntKind.i64 ((((ByteArray.size v1) : Nat) : Int) - (1 : Int)))
  (bedrockref10_number.l0 k k (v1, ((0 : Int), (v2, ((t0.1.1, (t0.1.2.1, (t0.1.2.2.1, (t0.1.2.2.2.1, ())))), (((⟨(List.toArray [])⟩ : ByteArray), ((0 : Int), ((0 : Int), ((0 : Int), ())))), ())))))).bind fun t7 => K ((t7.2.1.1, (t7.2.1.2.1, (t7.2.1.2.2.1, (t7.2.1.2.2.2.1, ())))), (t7.1, ()))
def bedrockref10_number (k : Nat) (r : (ByteArray × (Int × (Int × (Int × Unit))))) (n : Int) : Option ((ByteArray × (Int × (Int × (Int × Unit)))) × Int × Unit) := bedrockref10_number.c k r n some
def bedrockref10_number.tin : List Ty := [(.pair .str (.pair (.int .i64) (.pair (.int .i64) (.pair (.int .i64) .unit)))), (.int .i64)]
def bedrockref10_number.tout : List Ty := [(.pair .str (.pair (.int .i64) (.pair (.int .i64) (.pair (.int .i64) .unit)))), (.int .u64)]
def bedrockref10_number.sem (k : Nat) : CallSem := callPure bedrockref10_number.tin bedrockref10_number.tout fun x => bedrockref10_number k x.1 x.2.1
noncomputable def bedrockref10_number.ctx (k : Nat) : Ctx := ⟨Try.prog, gam [(72, (bedrockref10_bytes.sem k))]⟩
theorem bedrockref10_number.gok (k : Nat) : ∀ f, SemOK Try.prog f ((bedrockref10_number.ctx k).Γ f) := (gam_cons (bedrockref10_bytes.sem_ok k) gam_nil)
theorem bedrockref10_number.l0.round (k : Nat) : RoundIs (bedrockref10_number.ctx k) (codeAt (Func.code Try.f70) [1, 1, 1, 0, 1, 0, 0]) (.nil) bedrockref10_number.l0.T [.mask [2, 4, 6, 7, 8], .auto 0] bedrockref10_number.l0.os (bedrockref10_number.l0.r k) := by
  intro ρ x kn ke; kernel_rfl
theorem bedrockref10_number.l0.ok (k : Nat) : StOK 0 Try.prog (.loop (codeAt (Func.code Try.f70) [1, 1, 1, 0, 1, 0, 0])) (pieceSem bedrockref10_number.l0.T bedrockref10_number.l0.os (bedrockref10_number.l0 k k)) :=
  loop_ok (C := bedrockref10_number.ctx k) (bedrockref10_number.gok k) Try.mix AnnOK.nil (by kernel_rfl) (by kernel_rfl) (by kernel_rfl) (bedrockref10_number.l0.round k) k
def bedrockref10_number.ann (k : Nat) : Ann := .node [] none (.nil) (.node [] none (.nil) (.node [] none (.nil) (.node [] none (.node [] none (.nil) (.node [] none (.node [.mask [2, 4, 6, 7, 8], .auto 0] (some (pieceSem bedrockref10_number.l0.T bedrockref10_number.l0.os (bedrockref10_number.l0 k k))) .nil .nil) (.nil))) (.nil))))
theorem bedrockref10_number.body (k : Nat) : BodyIs (bedrockref10_number.ctx k) Try.f70 (Func.code Try.f70) (bedrockref10_number.ann k) bedrockref10_number.tin bedrockref10_number.tout (fun x K => bedrockref10_number.c k x.1 x.2.1 K) := by
  intro ρ x K; kernel_rfl
theorem bedrockref10_number.sem_ok (k : Nat) : SemOK Try.prog 70 (bedrockref10_number.sem k) :=
  callPure_ok (C := bedrockref10_number.ctx k) (bedrockref10_number.gok k) Try.mix (c := Func.code Try.f70) (ann := bedrockref10_number.ann k) (tin := bedrockref10_number.tin) (tout := bedrockref10_number.tout) (fun x K => bedrockref10_number.c k x.1 x.2.1 K) Try.func70 (by kernel_rfl) (by kernel_rfl) (AnnOK.seq AnnOK.nil (AnnOK.seq AnnOK.nil (AnnOK.seq AnnOK.nil (AnnOK.seq (AnnOK.seq AnnOK.nil (AnnOK.block (AnnOK.loop (by kernel_rfl) (bedrockref10_number.l0.ok k)))) AnnOK.nil)))) (bedrockref10_number.body k)

/-! 92 bedrock/bedrockref10.lay -/
abbrev bedrockref10_lay.l0.σ : Type := Int × Int × Int × (List Int) × Unit
abbrev bedrockref10_lay.l0.τ : Type := ((List Int) × Unit)
def bedrockref10_lay.l0.r (k : Nat) {ρ : Type} (x : bedrockref10_lay.l0.σ) (kn : bedrockref10_lay.l0.σ → Option ρ) (ke : bedrockref10_lay.l0.τ → Option ρ) : Option ρ :=
  bif (decide (x.2.2.1 < x.2.1)) then (let v0 : Int := (Int.tmod x.1 (256 : Int))
  bif (Nat.ble (((List.length x.2.2.2.1) + (List.length (List.set (List.replicate 1 (0 : Int)) 0 (IntKind.wrap IntKind.u8 v0)))) * 1) 140737488355328) then (let v1 : Int := (IntKind.wrap IntKind.u64 (Int.tdiv x.1 (256 : Int)))
  let v2 : Int := (IntKind.wrap IntKind.i64 (x.2.2.1 + (1 : Int)))
  kn (v1, (x.2.1, (v2, ((x.2.2.2.1 ++ (List.set (List.replicate 1 (0 : Int)) 0 (IntKind.wrap IntKind.u8 v0))), ()))))) else (none)) else (ke (x.2.2.2.1, ()))
def bedrockref10_lay.l0 (k : Nat) : Nat → bedrockref10_lay.l0.σ → Option bedrockref10_lay.l0.τ := loopJ (bedrockref10_lay.l0.r k)
def bedrockref10_lay.l0.T : StT := ⟨.dat (.int .u64) :: .dat (.int .i64) :: us 3 ++ .vsl 0 :: .dat (.int .i64) :: us 16, [.vec (.int .u8)]⟩
def bedrockref10_lay.l0.os : List Out := [⟨(.exit 0), [.mask [5], .auto 0], ⟨us 5 ++ .vsl 0 :: us 17, [.vec (.int .u8)]⟩⟩]
def bedrockref10_lay.c (k : Nat) {ρ : Type} (n : Int) (bytes : Int) (K : ByteArray × Unit → Option ρ) : Option ρ :=
  (bedrockref10_lay.l0 k k (n, (bytes, ((0 : Int), ((List.replicate 0 (0 : Int)), ()))))).bind fun t3 => K ((bytesOf t3.1), ())
def bedrockref10_lay (k : Nat) (n : Int) (bytes : Int) : Option (ByteArray × Unit) := bedrockref10_lay.c k n bytes some
def bedrockref10_lay.tin : List Ty := [(.int .u64), (.int .i64)]
def bedrockref10_lay.tout : List Ty := [.str]
def bedrockref10_lay.sem (k : Nat) : CallSem := callPure bedrockref10_lay.tin bedrockref10_lay.tout fun x => bedrockref10_lay k x.1 x.2.1
noncomputable def bedrockref10_lay.ctx (k : Nat) : Ctx := ⟨Try.prog, gam []⟩
theorem bedrockref10_lay.gok (k : Nat) : ∀ f, SemOK Try.prog f ((bedrockref10_lay.ctx k).Γ f) := gam_nil
theorem bedrockref10_lay.l0.round (k : Nat) : RoundIs (bedrockref10_lay.ctx k) (codeAt (Func.code Try.f92) [1, 1, 0, 1, 0, 0]) (.nil) bedrockref10_lay.l0.T [.mask [0, 1, 5, 6], .auto 0] bedrockref10_lay.l0.os (bedrockref10_lay.l0.r k) := by
  intro ρ x kn ke; kernel_rfl
theorem bedrockref10_lay.l0.ok (k : Nat) : StOK 0 Try.prog (.loop (codeAt (Func.code Try.f92) [1, 1, 0, 1, 0, 0])) (pieceSem bedrockref10_lay.l0.T bedrockref10_lay.l0.os (bedrockref10_lay.l0 k k)) :=
  loop_ok (C := bedrockref10_lay.ctx k) (bedrockref10_lay.gok k) Try.mix AnnOK.nil (by kernel_rfl) (by kernel_rfl) (by kernel_rfl) (bedrockref10_lay.l0.round k) k
def bedrockref10_lay.ann (k : Nat) : Ann := .node [] none (.nil) (.node [] none (.nil) (.node [] none (.node [] none (.nil) (.node [] none (.node [.mask [0, 1, 5, 6], .auto 0] (some (pieceSem bedrockref10_lay.l0.T bedrockref10_lay.l0.os (bedrockref10_lay.l0 k k))) .nil .nil) (.nil))) (.nil)))
theorem bedrockref10_lay.body (k : Nat) : BodyIs (bedrockref10_lay.ctx k) Try.f92 (Func.code Try.f92) (bedrockref10_lay.ann k) bedrockref10_lay.tin bedrockref10_lay.tout (fun x K => bedrockref10_lay.c k x.1 x.2.1 K) := by
  intro ρ x K; kernel_rfl
theorem bedrockref10_lay.sem_ok (k : Nat) : SemOK Try.prog 92 (bedrockref10_lay.sem k) :=
  callPure_ok (C := bedrockref10_lay.ctx k) (bedrockref10_lay.gok k) Try.mix (c := Func.code Try.f92) (ann := bedrockref10_lay.ann k) (tin := bedrockref10_lay.tin) (tout := bedrockref10_lay.tout) (fun x K => bedrockref10_lay.c k x.1 x.2.1 K) Try.func92 (by kernel_rfl) (by kernel_rfl) (AnnOK.seq AnnOK.nil (AnnOK.seq AnnOK.nil (AnnOK.seq (AnnOK.seq AnnOK.nil (AnnOK.block (AnnOK.loop (by kernel_rfl) (bedrockref10_lay.l0.ok k)))) AnnOK.nil))) (bedrockref10_lay.body k)

/-! 93 bedrock/bedrockref10.Count -/
def bedrockref10_Count.c (k : Nat) {ρ : Type} (n : Int) (K : ByteArray × Unit → Option ρ) : Option ρ :=
  bif (decide (n < (253 : Int))) then ((bedrockref10_lay k n (1 : Int)).bind fun t0 => K (t0.1, ())) else (bif (decide (n < (65536 : Int))) then ((bedrockref10_lay k n (2 : Int)).bind fun t1 => bif (Nat.ble (1 + (ByteArray.size t1.1)) 9223372036854775807) then (let v2 : ByteArray := ((⟨(List.toArray [253])⟩ : ByteArray) ++ t1.1)
  K (v2, ())) else (none)) else (bif (decide (n < (4294967296 : Int))) then ((bedrockref10_lay k n (4 : Int)).bind fun t3 => bif (Nat.ble (1 + (ByteArray.size t3.1)) 9223372036854775807) then (let v4 : ByteArray := ((⟨(List.toArray [254])⟩ : ByteArray) ++ t3.1)
  K (v4, ())) else (none)) else ((bedrockref10_lay k n (8 : Int)).bind fun t5 => bif (Nat.ble (1 + (ByteArray.size t5.1)) 9223372036854775807) then (let v6 : ByteArray := ((⟨(List.toArray [255])⟩ : ByteArray) ++ t5.1)
  K (v6, ())) else (none))))
def bedrockref10_Count (k : Nat) (n : Int) : Option (ByteArray × Unit) := bedrockref10_Count.c k n some
def bedrockref10_Count.tin : List Ty := [(.int .u64)]
def bedrockref10_Count.tout : List Ty := [.str]
def bedrockref10_Count.sem (k : Nat) : CallSem := callPure bedrockref10_Count.tin bedrockref10_Count.tout fun x => bedrockref10_Count k x.1
noncomputable def bedrockref10_Count.ctx (k : Nat) : Ctx := ⟨Try.prog, gam [(92, (bedrockref10_lay.sem k))]⟩
theorem bedrockref10_Count.gok (k : Nat) : ∀ f, SemOK Try.prog f ((bedrockref10_Count.ctx k).Γ f) := (gam_cons (bedrockref10_lay.sem_ok k) gam_nil)
def bedrockref10_Count.ann (k : Nat) : Ann := .nil
theorem bedrockref10_Count.body (k : Nat) : BodyIs (bedrockref10_Count.ctx k) Try.f93 (Func.code Try.f93) (bedrockref10_Count.ann k) bedrockref10_Count.tin bedrockref10_Count.tout (fun x K => bedrockref10_Count.c k x.1 K) := by
  intro ρ x K; kernel_rfl
theorem bedrockref10_Count.sem_ok (k : Nat) : SemOK Try.prog 93 (bedrockref10_Count.sem k) :=
  callPure_ok (C := bedrockref10_Count.ctx k) (bedrockref10_Count.gok k) Try.mix (c := Func.code Try.f93) (ann := bedrockref10_Count.ann k) (tin := bedrockref10_Count.tin) (tout := bedrockref10_Count.tout) (fun x K => bedrockref10_Count.c k x.1 K) Try.func93 (by kernel_rfl) (by kernel_rfl) AnnOK.nil (bedrockref10_Count.body k)

/-! 71 bedrock/bedrockref10.count -/
abbrev bedrockref10_count.p0.σ : Type := Int × Int × Int × Int × Int × (ByteArray × (Int × (Int × (Int × Unit)))) × (ByteArray × (Int × (Int × (Int × Unit)))) × (ByteArray × (Int × (Int × (Int × Unit)))) × Unit
abbrev bedrockref10_count.p0.τ : Type := (Int × Int × Int × Int × (ByteArray × (Int × (Int × (Int × Unit)))) × (ByteArray × (Int × (Int × (Int × Unit)))) × (ByteArray × (Int × (Int × (Int × Unit)))) × Unit)
def bedrockref10_count.p0.r (k : Nat) {ρ : Type} (x : bedrockref10_count.p0.σ) (K : bedrockref10_count.p0.τ → Option ρ) : Option ρ :=
  bif (x.2.2.1 == (253 : Int)) then (K (x.1, (x.2.1, (x.2.2.2.1, ((2 : Int), ((x.2.2.2.2.2.1.1, (x.2.2.2.2.2.1.2.1, (x.2.2.2.2.2.1.2.2.1, (x.2.2.2.2.2.1.2.2.2.1, ())))), ((x.2.2.2.2.2.2.1.1, (x.2.2.2.2.2.2.1.2.1, (x.2.2.2.2.2.2.1.2.2.1, (x.2.2.2.2.2.2.1.2.2.2.1, ())))), ((x.2.2.2.2.2.2.2.1.1, (x.2.2.2.2.2.2.2.1.2.1, (x.2.2.2.2.2.2.2.1.2.2.1, (x.2.2.2.2.2.2.2.1.2.2.2.1, ())))), ())))))))) else (bif (x.2.2.1 == (254 : Int)) then (K (x.1, (x.2.1, (x.2.2.2.1, ((4 : Int), ((x.2.2.2.2.2.1.1, (x.2.2.2.2.2.1.2.1, (x.2.2.2.2.2.1.2.2.1, (x.2.2.2.2.2.1.2.2.2.1, ())))), ((x.2.2.2.2.2.2.1.1, (x.2.2.2.2.2.2.1.2.1, (x.2.2.2.2.2.2.1.2.2.1, (x.2.2.2.2.2.2.1.2.2.2.1, ())))), ((x.2.2.2.2.2.2.2.1.1, (x.2.2.2.2.2.2.2.1.2.1, (x.2.2.2.2.2.2.2.1.2.2.1, (x.2.2.2.2.2.2.2.1.2.2.2.1, ())))), ())))))))) else (bif (x.2.2.1 == (255 : Int)) then (K (x.1, (x.2.1, (x.2.2.2.1, ((8 : Int), ((x.2.2.2.2.2.1.1, (x.2.2.2.2.2.1.2.1, (x.2.2.2.2.2.1.2.2.1, (x.2.2.2.2.2.1.2.2.2.1, ())))), ((x.2.2.2.2.2.2.1.1, (x.2.2.2.2.2.2.1.2.1, (x.2.2.2.2.2.2.1.2.2.1, (x.2.2.2.2.2.2.1.2.2.2.1, ())))), ((x.2.2.2.2.2.2.2.1.1, (x.2.2.2.2.2.2.2.1.2.1, (x.2.2.2.2.2.2.2.1.2.2.1, (x.2.2.2.2.2.2.2.1.2.2.2.1, ())))), ())))))))) else (K (x.1, (x.2.1, (x.2.2.2.1, (x.2.2.2.2.1, ((x.2.2.2.2.2.1.1, (x.2.2.2.2.2.1.2.1, (x.2.2.2.2.2.1.2.2.1, (x.2.2.2.2.2.1.2.2.2.1, ())))), ((x.2.2.2.2.2.2.1.1, (x.2.2.2.2.2.2.1.2.1, (x.2.2.2.2.2.2.1.2.2.1, (x.2.2.2.2.2.2.1.2.2.2.1, ())))), ((x.2.2.2.2.2.2.2.1.1, (x.2.2.2.2.2.2.2.1.2.1, (x.2.2.2.2.2.2.2.1.2.2.1, (x.2.2.2.2.2.2.2.1.2.2.2.1, ())))), ()))))))))))
def bedrockref10_count.p0 (k : Nat) (x : bedrockref10_count.p0.σ) : Option bedrockref10_count.p0.τ := bedrockref10_count.p0.r k x some
def bedrockref10_count.p0.T : StT := ⟨us 1 ++ .dat (.int .i64) :: .dat (.int .i64) :: .ptr 0 [] :: us 2 ++ .ptr 1 [] :: us 1 ++ .ptr 2 [] :: .dat (.int .u64) :: .dat (.int .u64) :: .dat (.int .i64) :: us 47, [.dat (.pair .str (.pair (.int .i64) (.pair (.int .i64) (.pair (.int .i64) .unit)))), .dat (.pair .str (.pair (.int .i64) (.pair (.int .i64) (.pair (.int .i64) .unit)))), .dat (.pair .str (.pair (.int .i64) (.pair (.int .i64) (.pair (.int .i64) .unit))))]⟩
def bedrockref10_count.p0.os : List Out := [⟨.normal, [.mask [1, 2, 3, 6, 8, 10, 11], .auto 0], ⟨us 1 ++ .dat (.int .i64) :: .dat (.int .i64) :: .ptr 0 [] :: us 2 ++ .ptr 1 [] :: us 1 ++ .ptr 2 [] :: us 1 ++ .dat (.int .u64) :: .dat (.int .i64) :: us 47, [.dat (.pair .str (.pair (.int .i64) (.pair (.int .i64) (.pair (.int .i64) .unit)))), .dat (.pair .str (.pair (.int .i64) (.pair (.int .i64) (.pair (.int .i64) .unit)))), .dat (.pair .str (.pair (.int .i64) (.pair (.int .i64) (.pair (.int .i64) .unit))))]⟩⟩]
abbrev bedrockref10_count.p1.σ : Type := Int × Int × Int × Int × (ByteArray × (Int × (Int × (Int × Unit)))) × (ByteArray × (Int × (Int × (Int × Unit)))) × (ByteArray × (Int × (Int × (Int × Unit)))) × Unit
abbrev bedrockref10_count.p1.τ : Type := (Int × Int × Int × Int × (ByteArray × (Int × (Int × (Int × Unit)))) × (ByteArray × (Int × (Int × (Int × Unit)))) × (ByteArray × (Int × (Int × (Int × Unit)))) × Unit)
def bedrockref10_count.p1.r (k : Nat) {ρ : Type} (x : bedrockref10_count.p1.σ) (K : bedrockref10_count.p1.τ → Option ρ) : Option ρ :=
  bif (decide (x.2.2.2.1 > (0 : Int))) then ((bedrockref10_number k (x.2.2.2.2.1.1, (x.2.2.2.2.1.2.1, (x.2.2.2.2.1.2.2.1, (x.2.2.2.2.1.2.2.2.1, ())))) x.2.2.2.1).bind fun t3 => let v4 : Int := t3.2.1
  K (x.1, (x.2.1, (v4, (x.2.2.2.1, ((t3.1.1, (t3.1.2.1, (t3.1.2.2.1, (t3.1.2.2.2.1, ())))), ((x.2.2.2.2.2.1.1, (x.2.2.2.2.2.1.2.1, (x.2.2.2.2.2.1.2.2.1, (x.2.2.2.2.2.1.2.2.2.1, ())))), ((x.2.2.2.2.2.2.1.1, (x.2.2.2.2.2.2.1.2.1, (x.2.2.2.2.2.2.1.2.2.1, (x.2.2.2.2.2.2.1.2.2.2.1, ())))), ())))))))) else (K (x.1, (x.2.1, (x.2.2.1, (x.2.2.2.1, ((x.2.2.2.2.1.1, (x.2.2.2.2.1.2.1, (x.2.2.2.2.1.2.2.1, (x.2.2.2.2.1.2.2.2.1, ())))), ((x.2.2.2.2.2.1.1, (x.2.2.2.2.2.1.2.1, (x.2.2.2.2.2.1.2.2.1, (x.2.2.2.2.2.1.2.2.2.1, ())))), ((x.2.2.2.2.2.2.1.1, (x.2.2.2.2.2.2.1.2.1, (x.2.2.2.2.2.2.1.2.2.1, (x.2.2.2.2.2.2.1.2.2.2.1, ())))), ()))))))))
def bedrockref10_count.p1 (k : Nat) (x : bedrockref10_count.p1.σ) : Option bedrockref10_count.p1.τ := bedrockref10_count.p1.r k x some
def bedrockref10_count.p1.T : StT := ⟨us 1 ++ .dat (.int .i64) :: .dat (.int .i64) :: .ptr 0 [] :: us 2 ++ .ptr 1 [] :: us 1 ++ .ptr 2 [] :: us 1 ++ .dat (.int .u64) :: .dat (.int .i64) :: us 47, [.dat (.pair .str (.pair (.int .i64) (.pair (.int .i64) (.pair (.int .i64) .unit)))), .dat (.pair .str (.pair (.int .i64) (.pair (.int .i64) (.pair (.int .i64) .unit)))), .dat (.pair .str (.pair (.int .i64) (.pair (.int .i64) (.pair (.int .i64) .unit))))]⟩
def bedrockref10_count.p1.os : List Out := [⟨.normal, [.mask [1, 2, 3, 6, 8, 10, 11], .auto 0], ⟨us 1 ++ .dat (.int .i64) :: .dat (.int .i64) :: .ptr 0 [] :: us 2 ++ .ptr 1 [] :: us 1 ++ .ptr 2 [] :: us 1 ++ .dat (.int .u64) :: .dat (.int .i64) :: us 47, [.dat (.pair .str (.pair (.int .i64) (.pair (.int .i64) (.pair (.int .i64) .unit)))), .dat (.pair .str (.pair (.int .i64) (.pair (.int .i64) (.pair (.int .i64) .unit)))), .dat (.pair .str (.pair (.int .i64) (.pair (.int .i64) (.pair (.int .i64) .unit))))]⟩⟩]
def bedrockref10_count.c (k : Nat) {ρ : Type} (r : (ByteArray × (Int × (Int × (Int × Unit))))) (most : Int) (e : Int) (K : (ByteArray × (Int × (Int × (Int × Unit)))) × Int × Unit → Option ρ) : Option ρ :=
  (bedrockref10_number k (r.1, (r.2.1, (r.2.2.1, (r.2.2.2.1, ())))) (1 : Int)).bind fun t0 => let v1 : Int := t0.2.1
  (bedrockref10_count.p0 k (most, (e, (v1, (v1, ((0 : Int), ((t0.1.1, (t0.1.2.1, (t0.1.2.2.1, (t0.1.2.2.2.1, ())))), (((⟨(List.toArray [])⟩ : ByteArray), ((0 : Int), ((0 : Int), ((0 : Int), ())))), ((r.1, (r.2.1, (r.2.2.1, (r.2.2.2.1, ())))), ()))))))))).bind fun t2 => (bedrockref10_count.p1 k (t2.1, (t2.2.1, (t2.2.2.1, (t2.2.2.2.1, ((t2.2.2.2.2.1.1, (t2.2.2.2.2.1.2.1, (t2.2.2.2.2.1.2.2.1, (t2.2.2.2.2.1.2.2.2.1, ())))), ((t2.2.2.2.2.2.1.1, (t2.2.2.2.2.2.1.2.1, (t2.2.2.2.2.2.1.2.2.1, (t2.2.2.2.2.2.1.2.2.2.1, ())))), ((t2.2.2.2.2.2.2.1.1, (t2.2.2.2.2.2.2.1.2.1, (t2.2.2.2.2.2.2.1.2.2.1, (t2.2.2.2.2.2.2.1.2.2.2.1, ())))), ())))))))).bind fun t5 => let v6 : Int := t5.2.2.2.2.1.2.2.2.1
  bif (v6 != (0 : Int)) then (let v7 : Int := t5.2.2.2.2.2.2.1.2.2.1
  K ((t5.2.2.2.2.1.1, (t5.2.2.2.2.1.2.1, (v7, (t5.2.2.2.2.1.2.2.2.1, ())))), ((0 : Int), ()))) else ((bedrockref10_Count k t5.2.2.1).bind fun t8 => let v9 : Int := (((ByteArray.size t8.1) : Nat) : Int)
  let v10 : Int := (IntKind.wrap IntKind.i64 ((1 : Int) + t5.2.2.2.1))
  bif (v9 != v10) then (K ((t5.2.2.2.2.1.1, (t5.2.2.2.2.1.2.1, (t5.2.2.2.2.1.2.2.1, ((6 : Int), ())))), ((0 : Int), ()))) else (let v11 : Int := (IntKind.wrap IntKind.u64 t5.1)
  bif (decide (t5.2.2.1 > v11)) then (K ((t5.2.2.2.2.1.1, (t5.2.2.2.2.1.2.1, (t5.2.2.2.2.1.2.2.1, (t5.2.1, ())))), ((0 : Int), ()))) else (let v12 : Int := (IntKind.wrap IntKind.i64 t5.2.2.1)
  K ((t5.2.2.2.2.1.1, (t5.2.2.2.2.1.2.1, (t5.2.2.2.2.1.2.2.1, (t5.2.2.2.2.1.2.2.2.1, ())))), (v12, ())))))
def bedrockref10_count (k : Nat) (r : (ByteArray × (Int × (Int × (Int × Unit))))) (most : Int) (e : Int) : Option ((ByteArray × (Int × (Int × (Int × Unit)))) × Int × Unit) := bedrockref10_count.c k r most e some
def bedrockref10_count.tin : List Ty := [(.pair .str (.pair (.int .i64) (.pair (.int .i64) (.pair (.int .i64) .unit)))), (.int .i64), (.int .i64)]
def bedrockref10_count.tout : List Ty := [(.pair .str (.pair (.int .i64) (.pair (.int .i64) (.pair (.int .i64) .unit)))), (.int .i64)]
def bedrockref10_count.sem (k : Nat) : CallSem := callPure bedrockref10_count.tin bedrockref10_count.tout fun x => bedrockref10_count k x.1 x.2.1 x.2.2.1
noncomputable def bedrockref10_count.ctx (k : Nat) : Ctx := ⟨Try.prog, gam [(70, (bedrockref10_number.sem k)), (93, (bedrockref10_Count.sem k))]⟩
theorem bedrockref10_count.gok (k : Nat) : ∀ f, SemOK Try.prog f ((bedrockref10_count.ctx k).Γ f) := (gam_cons (bedrockref10_number.sem_ok k) (gam_cons (bedrockref10_Count.sem_ok k) gam_nil))
theorem bedrockref10_count.p0.is (k : Nat) : PieceIs (bedrockref10_count.ctx k) (codeAt (Func.code Try.f71) [1, 1, 1, 1, 1, 0]) (.nil) bedrockref10_count.p0.T bedrockref10_count.p0.os (bedrockref10_count.p0.r k) := by
  intro ρ x K; kernel_rfl
theorem bedrockref10_count.p0.ok (k : Nat) : StOK 0 Try.prog (codeAt (Func.code Try.f71) [1, 1, 1, 1, 1, 0]) (pieceSem bedrockref10_count.p0.T bedrockref10_count.p0.os (bedrockref10_count.p0 k)) :=
  piece_ok (C := bedrockref10_count.ctx k) (T := bedrockref10_count.p0.T) (os := bedrockref10_count.p0.os) (bedrockref10_count.gok k) Try.mix (fun x K => bedrockref10_count.p0.r k x K) AnnOK.nil (by kernel_rfl) (by kernel_rfl) (bedrockref10_count.p0.is k)
theorem bedrockref10_count.p1.is (k : Nat) : PieceIs (bedrockref10_count.ctx k) (codeAt (Func.code Try.f71) [1, 1, 1, 1, 1, 1, 0]) (.nil) bedrockref10_count.p1.T bedrockref10_count.p1.os (bedrockref10_count.p1.r k) := by
  intro ρ x K; kernel_rfl
theorem bedrockref10_count.p1.ok (k : Nat) : StOK 0 Try.prog (codeAt (Func.code Try.f71) [1, 1, 1, 1, 1, 1, 0]) (pieceSem bedrockref10_count.p1.T bedrockref10_count.p1.os (bedrockref10_count.p1 k)) :=
  piece_ok (C := bedrockref10_count.ctx k) (T := bedrockref10_count.p1.T) (os := bedrockref10_count.p1.os) (bedrockref10_count.gok k) Try.mix (fun x K => bedrockref10_count.p1.r k x K) AnnOK.nil (by kernel_rfl) (by kernel_rfl) (bedrockref10_count.p1.is k)
def bedrockref10_count.ann (k : Nat) : Ann := .node [] none (.nil) (.node [] none (.nil) (.node [] none (.nil) (.node [] none (.nil) (.node [] none (.nil) (.node [] none (.node [.mask [1, 2, 3, 6, 8, 9, 10, 11], .auto 0] (some (pieceSem bedrockref10_count.p0.T bedrockref10_count.p0.os (bedrockref10_count.p0 k))) .nil .nil) (.node [] none (.node [.mask [1, 2, 3, 6, 8, 10, 11], .auto 0] (some (pieceSem bedrockref10_count.p1.T bedrockref10_count.p1.os (bedrockref10_count.p1 k))) .nil .nil) (.nil)))))))
theorem bedrockref10_count.body (k : Nat) : BodyIs (bedrockref10_count.ctx k) Try.f71 (Func.code Try.f71) (bedrockref10_count.ann k) bedrockref10_count.tin bedrockref10_count.tout (fun x K => bedrockref10_count.c k x.1 x.2.1 x.2.2.1 K) := by
  intro ρ x K; kernel_rfl
theorem bedrockref10_count.sem_ok (k : Nat) : SemOK Try.prog 71 (bedrockref10_count.sem k) :=
  callPure_ok (C := bedrockref10_count.ctx k) (bedrockref10_count.gok k) Try.mix (c := Func.code Try.f71) (ann := bedrockref10_count.ann k) (tin := bedrockref10_count.tin) (tout := bedrockref10_count.tout) (fun x K => bedrockref10_count.c k x.1 x.2.1 x.2.2.1 K) Try.func71 (by kernel_rfl) (by kernel_rfl) (AnnOK.seq AnnOK.nil (AnnOK.seq AnnOK.nil (AnnOK.seq AnnOK.nil (AnnOK.seq AnnOK.nil (AnnOK.seq AnnOK.nil (AnnOK.seq (AnnOK.loop (by kernel_rfl) (bedrockref10_count.p0.ok k)) (AnnOK.seq (AnnOK.loop (by kernel_rfl) (bedrockref10_count.p1.ok k)) AnnOK.nil))))))) (bedrockref10_count.body k)

/-! 20 bedrock/bedrockref10.Take -/
abbrev bedrockref10_Take.p0.σ : Type := ByteArray × Int × (Int × (Unit × (Unit × (Int × Unit)))) × Unit
abbrev bedrockref10_Take.p0.τ : Type := (Int × Int × (Int × (Unit × (Unit × (Int × Unit)))) × Unit) ⊕ (ByteArray × Int × (Int × (Unit × (Unit × (Int × Unit)))) × Unit)
def bedrockref10_Take.p0.r (k : Nat) {ρ : Type} (x : bedrockref10_Take.p0.σ) (K : bedrockref10_Take.p0.τ → Option ρ) : Option ρ :=
  bif (decide (x.2.1 < (0 : Int))) then (K (.inl ((0 : Int), ((1 : Int), (((0 : Int), ((), ((), ((0 : Int), ())))), ()))))) else (let v0 : Int := (((ByteArray.size x.1) : Nat) : Int)
  bif (decide (x.2.1 > v0)) then (K (.inl ((0 : Int), ((1 : Int), (((0 : Int), ((), ((), ((0 : Int), ())))), ()))))) else (K (.inr (x.1, (x.2.1, ((x.2.2.1.1, ((), ((), (x.2.2.1.2.2.2.1, ())))), ()))))))
def bedrockref10_Take.p0 (k : Nat) (x : bedrockref10_Take.p0.σ) : Option bedrockref10_Take.p0.τ := bedrockref10_Take.p0.r k x some
def bedrockref10_Take.p0.T : StT := ⟨.dat .str :: .dat (.int .i64) :: us 2 ++ .ptr 0 [] :: us 161, [.pair (.dat (.int .u32)) (.pair (.nils) (.pair (.nils) (.dat (.pair (.int .u32) .unit))))]⟩
def bedrockref10_Take.p0.os : List Out := [⟨.ret, [.mask [4, 5, 6], .auto 0], ⟨us 4 ++ .ptr 0 [] :: .dat (.int .i64) :: .dat (.int .i64) :: us 159, [.pair (.dat (.int .u32)) (.pair (.nils) (.pair (.nils) (.dat (.pair (.int .u32) .unit))))]⟩⟩, ⟨.normal, [.mask [0, 1, 4], .auto 0], ⟨.dat .str :: .dat (.int .i64) :: us 2 ++ .ptr 0 [] :: us 161, [.pair (.dat (.int .u32)) (.pair (.nils) (.pair (.nils) (.dat (.pair (.int .u32) .unit))))]⟩⟩]
abbrev bedrockref10_Take.p2.σ : Type := Int × Int × (Int × (Unit × (Unit × (Int × Unit)))) × (ByteArray × (Int × (Int × (Int × Unit)))) × (Int × (Unit × (Unit × (Int × Unit)))) × (List ((List Int) × (Int × (ByteArray × (Int × Unit))))) × Unit
abbrev bedrockref10_Take.p2.τ : Type := (Int × Int × (Int × (Unit × (Unit × (Int × Unit)))) × (ByteArray × (Int × (Int × (Int × Unit)))) × (Int × (Unit × (Unit × (Int × Unit)))) × (List ((List Int) × (Int × (ByteArray × (Int × Unit))))) × Unit) ⊕ ((Int × (Unit × (Unit × (Int × Unit)))) × (ByteArray × (Int × (Int × (Int × Unit)))) × (Int × (Unit × (Unit × (Int × Unit)))) × (List ((List Int) × (Int × (ByteArray × (Int × Unit))))) × Unit)
def bedrockref10_Take.p2.r (k : Nat) {ρ : Type} (x : bedrockref10_Take.p2.σ) (K : bedrockref10_Take.p2.τ → Option ρ) : Option ρ :=
  bif (decide (x.2.1 < x.1)) then (let v8 : Int := x.2.2.2.1.2.2.2.1
  bif (v8 == (0 : Int)) then (K (.inl (x.1, (x.2.1, ((x.2.2.1.1, ((), ((), (x.2.2.1.2.2.2.1, ())))), ((x.2.2.2.1.1, (x.2.2.2.1.2.1, (x.2.2.2.1.2.2.1, (x.2.2.2.1.2.2.2.1, ())))), ((x.2.2.2.2.1.1, ((), ((), (x.2.2.2.2.1.2.2.2.1, ())))), (x.2.2.2.2.2.1, ())))))))) else (K (.inr ((x.2.2.1.1, ((), ((), (x.2.2.1.2.2.2.1, ())))), ((x.2.2.2.1.1, (x.2.2.2.1.2.1, (x.2.2.2.1.2.2.1, (x.2.2.2.1.2.2.2.1, ())))), ((x.2.2.2.2.1.1, ((), ((), (x.2.2.2.2.1.2.2.2.1, ())))), (x.2.2.2.2.2.1, ()))))))) else (K (.inr ((x.2.2.1.1, ((), ((), (x.2.2.1.2.2.2.1, ())))), ((x.2.2.2.1.1, (x.2.2.2.1.2.1, (x.2.2.2.1.2.2.1, (x.2.2.2.1.2.2.2.1, ())))), ((x.2.2.2.2.1.1, ((), ((), (x.2.2.2.2.1.2.2.2.1, ())))), (x.2.2.2.2.2.1, ()))))))
def bedrockref10_Take.p2 (k : Nat) (x : bedrockref10_Take.p2.σ) : Option bedrockref10_Take.p2.τ := bedrockref10_Take.p2.r k x some
def bedrockref10_Take.p2.T : StT := ⟨us 4 ++ .ptr 0 [] :: us 2 ++ .ptr 1 [] :: .ptr 2 [] :: us 1 ++ .dat (.int .i64) :: .dat (.int .i64) :: us 154, [.pair (.dat (.int .u32)) (.pair (.nils) (.pair (.nils) (.dat (.pair (.int .u32) .unit)))), .dat (.pair .str (.pair (.int .i64) (.pair (.int .i64) (.pair (.int .i64) .unit)))), .pair (.dat (.int .u32)) (.pair (.vsl 3) (.pair (.nils) (.dat (.pair (.int .u32) .unit)))), .vec (.pair (.arr 32 (.int .u8)) (.pair (.int .u32) (.pair .str (.pair (.int .u32) .unit))))]⟩
def bedrockref10_Take.p2.os : List Out := [⟨.normal, [.mask [4, 7, 8, 10, 11], .auto 0], ⟨us 4 ++ .ptr 0 [] :: us 2 ++ .ptr 1 [] :: .ptr 2 [] :: us 1 ++ .dat (.int .i64) :: .dat (.int .i64) :: us 154, [.pair (.dat (.int .u32)) (.pair (.nils) (.pair (.nils) (.dat (.pair (.int .u32) .unit)))), .dat (.pair .str (.pair (.int .i64) (.pair (.int .i64) (.pair (.int .i64) .unit)))), .pair (.dat (.int .u32)) (.pair (.vsl 3) (.pair (.nils) (.dat (.pair (.int .u32) .unit)))), .vec (.pair (.arr 32 (.int .u8)) (.pair (.int .u32) (.pair .str (.pair (.int .u32) .unit))))]⟩⟩, ⟨(.exit 0), [.mask [4, 7, 8], .auto 0], ⟨us 4 ++ .ptr 0 [] :: us 2 ++ .ptr 1 [] :: .ptr 2 [] :: us 157, [.pair (.dat (.int .u32)) (.pair (.nils) (.pair (.nils) (.dat (.pair (.int .u32) .unit)))), .dat (.pair .str (.pair (.int .i64) (.pair (.int .i64) (.pair (.int .i64) .unit)))), .pair (.dat (.int .u32)) (.pair (.vsl 3) (.pair (.nils) (.dat (.pair (.int .u32) .unit)))), .vec (.pair (.arr 32 (.int .u8)) (.pair (.int .u32) (.pair .str (.pair (.int .u32) .unit))))]⟩⟩]
abbrev bedrockref10_Take.l3.σ : Type := Int × Int × ByteArray × Int × (Int × (Unit × (Unit × (Int × Unit)))) × (ByteArray × (Int × (Int × (Int × Unit)))) × (Int × (Unit × (Unit × (Int × Unit)))) × (List ((List Int) × (Int × (ByteArray × (Int × Unit))))) × ((List Int) × (Int × (ByteArray × (Int × Unit)))) × Unit
abbrev bedrockref10_Take.l3.τ : Type := (Int × Int × (Int × (Unit × (Unit × (Int × Unit)))) × (ByteArray × (Int × (Int × (Int × Unit)))) × (Int × (Unit × (Unit × (Int × Unit)))) × (List ((List Int) × (Int × (ByteArray × (Int × Unit))))) × ((List Int) × (Int × (ByteArray × (Int × Unit)))) × Unit)
def bedrockref10_Take.l3.r (k : Nat) {ρ : Type} (x : bedrockref10_Take.l3.σ) (kn : bedrockref10_Take.l3.σ → Option ρ) (ke : bedrockref10_Take.l3.τ → Option ρ) : Option ρ :=
  let v13 : Int := (((ByteArray.size x.2.2.1) : Nat) : Int)
  bif (decide (x.2.2.2.1 < v13)) then (bif (decide (((0 : Int) ≤ x.2.2.2.1) ∧ (x.2.2.2.1 < (((ByteArray.size x.2.2.1) : Nat) : Int)))) then (let v14 : Int := (byteAt x.2.2.1 (Int.toNat x.2.2.2.1))
  bif (decide (((0 : Int) ≤ x.2.2.2.1) ∧ (x.2.2.2.1 < ((32 : Nat) : Int)))) then (let v15 : Int := (IntKind.wrap IntKind.i64 (x.2.2.2.1 + (1 : Int)))
  kn (x.1, (x.2.1, (x.2.2.1, (v15, ((x.2.2.2.2.1.1, ((), ((), (x.2.2.2.2.1.2.2.2.1, ())))), ((x.2.2.2.2.2.1.1, (x.2.2.2.2.2.1.2.1, (x.2.2.2.2.2.1.2.2.1, (x.2.2.2.2.2.1.2.2.2.1, ())))), ((x.2.2.2.2.2.2.1.1, ((), ((), (x.2.2.2.2.2.2.1.2.2.2.1, ())))), (x.2.2.2.2.2.2.2.1, (((List.set x.2.2.2.2.2.2.2.2.1.1 (Int.toNat x.2.2.2.1) v14), (x.2.2.2.2.2.2.2.2.1.2.1, (x.2.2.2.2.2.2.2.2.1.2.2.1, (x.2.2.2.2.2.2.2.2.1.2.2.2.1, ())))), ())))))))))) else (none)) else (none)) else (ke (x.1, (x.2.1, ((x.2.2.2.2.1.1, ((), ((), (x.2.2.2.2.1.2.2.2.1, ())))), ((x.2.2.2.2.2.1.1, (x.2.2.2.2.2.1.2.1, (x.2.2.2.2.2.1.2.2.1, (x.2.2.2.2.2.1.2.2.2.1, ())))), ((x.2.2.2.2.2.2.1.1, ((), ((), (x.2.2.2.2.2.2.1.2.2.2.1, ())))), (x.2.2.2.2.2.2.2.1, ((x.2.2.2.2.2.2.2.2.1.1, (x.2.2.2.2.2.2.2.2.1.2.1, (x.2.2.2.2.2.2.2.2.1.2.2.1, (x.2.2.2.2.2.2.2.2.1.2.2.2.1, ())))), ()))))))))
def bedrockref10_Take.l3 (k : Nat) : Nat → bedrockref10_Take.l3.σ → Option bedrockref10_Take.l3.τ := loopJ (bedrockref10_Take.l3.r k)
def bedrockref10_Take.l3.T : StT := ⟨us 4 ++ .ptr 0 [] :: us 2 ++ .ptr 1 [] :: .ptr 2 [] :: us 1 ++ .dat (.int .i64) :: .dat (.int .i64) :: .ptr 4 [] :: .dat .str :: .dat (.int .i64) :: us 151, [.pair (.dat (.int .u32)) (.pair (.nils) (.pair (.nils) (.dat (.pair (.int .u32) .unit)))), .dat (.pair .str (.pair (.int .i64) (.pair (.int .i64) (.pair (.int .i64) .unit)))), .pair (.dat (.int .u32)) (.pair (.vsl 3) (.pair (.nils) (.dat (.pair (.int .u32) .unit)))), .vec (.pair (.arr 32 (.int .u8)) (.pair (.int .u32) (.pair .str (.pair (.int .u32) .unit)))), .dat (.pair (.arr 32 (.int .u8)) (.pair (.int .u32) (.pair .str (.pair (.int .u32) .unit))))]⟩
def bedrockref10_Take.l3.os : List Out := [⟨(.exit 2), [.mask [4, 7, 8, 10, 11, 12], .auto 0], ⟨us 4 ++ .ptr 0 [] :: us 2 ++ .ptr 1 [] :: .ptr 2 [] :: us 1 ++ .dat (.int .i64) :: .dat (.int .i64) :: .ptr 4 [] :: us 153, [.pair (.dat (.int .u32)) (.pair (.nils) (.pair (.nils) (.dat (.pair (.int .u32) .unit)))), .dat (.pair .str (.pair (.int .i64) (.pair (.int .i64) (.pair (.int .i64) .unit)))), .pair (.dat (.int .u32)) (.pair (.vsl 3) (.pair (.nils) (.dat (.pair (.int .u32) .unit)))), .vec (.pair (.arr 32 (.int .u8)) (.pair (.int .u32) (.pair .str (.pair (.int .u32) .unit)))), .dat (.pair (.arr 32 (.int .u8)) (.pair (.int .u32) (.pair .str (.pair (.int .u32) .unit))))]⟩⟩]
abbrev bedrockref10_Take.l1.σ : Type := Int × Int × (Int × (Unit × (Unit × (Int × Unit)))) × (ByteArray × (Int × (Int × (Int × Unit)))) × (Int × (Unit × (Unit × (Int × Unit)))) × (List ((List Int) × (Int × (ByteArray × (Int × Unit))))) × Unit
abbrev bedrockref10_Take.l1.τ : Type := ((Int × (Unit × (Unit × (Int × Unit)))) × (ByteArray × (Int × (Int × (Int × Unit)))) × (Int × (Unit × (Unit × (Int × Unit)))) × (List ((List Int) × (Int × (ByteArray × (Int × Unit))))) × Unit)
def bedrockref10_Take.l1.r (k : Nat) {ρ : Type} (x : bedrockref10_Take.l1.σ) (kn : bedrockref10_Take.l1.σ → Option ρ) (ke : bedrockref10_Take.l1.τ → Option ρ) : Option ρ :=
  (bedrockref10_Take.p2 k (x.1, (x.2.1, ((x.2.2.1.1, ((), ((), (x.2.2.1.2.2.2.1, ())))), ((x.2.2.2.1.1, (x.2.2.2.1.2.1, (x.2.2.2.1.2.2.1, (x.2.2.2.1.2.2.2.1, ())))), ((x.2.2.2.2.1.1, ((), ((), (x.2.2.2.2.1.2.2.2.1, ())))), (x.2.2.2.2.2.1, ()))))))).bind fun t9 => (match t9 with | .inl t10 => ((bedrockref10_bytes k (t10.2.2.2.1.1, (t10.2.2.2.1.2.1, (t10.2.2.2.1.2.2.1, (t10.2.2.2.1.2.2.2.1, ())))) (32 : Int)).bind fun t11 => let v12 : ByteArray := t11.2.1
  (bedrockref10_Take.l3 k k (t10.1, (t10.2.1, (v12, ((0 : Int), ((t10.2.2.1.1, ((), ((), (t10.2.2.1.2.2.2.1, ())))), ((t11.1.1, (t11.1.2.1, (t11.1.2.2.1, (t11.1.2.2.2.1, ())))), ((t10.2.2.2.2.1.1, ((), ((), (t10.2.2.2.2.1.2.2.2.1, ())))), (t10.2.2.2.2.2.1, (((List.replicate 32 (0 : Int)), ((0 : Int), ((⟨(List.toArray [])⟩ : ByteArray), ((0 : Int), ())))), ())))))))))).bind fun t16 => (bedrockref10_number k (t16.2.2.2.1.1, (t16.2.2.2.1.2.1, (t16.2.2.2.1.2.2.1, (t16.2.2.2.1.2.2.2.1, ())))) (4 : Int)).bind fun t17 => let v18 : Int := t17.2.1
  (bedrockref10_count k (t17.1.1, (t17.1.2.1, (t17.1.2.2.1, (t17.1.2.2.2.1, ())))) (520 : Int) (100 : Int)).bind fun t19 => let v20 : Int := t19.2.1
  (bedrockref10_bytes k (t19.1.1, (t19.1.2.1, (t19.1.2.2.1, (t19.1.2.2.2.1, ())))) v20).bind fun t21 => let v22 : ByteArray := t21.2.1
  (bedrockref10_number k (t21.1.1, (t21.1.2.1, (t21.1.2.2.1, (t21.1.2.2.2.1, ())))) (4 : Int)).bind fun t23 => let v24 : Int := t23.2.1
  bif (Nat.ble (((List.length t16.2.2.2.2.2.1) + (List.length (List.set (List.replicate 1 ((List.replicate 32 (0 : Int)), ((0 : Int), (ByteArray.empty, ((0 : Int), ()))))) 0 (t16.2.2.2.2.2.2.1.1, ((IntKind.wrap IntKind.u32 v18), (v22, ((IntKind.wrap IntKind.u32 v24), ()))))))) * 64) 140737488355328) then (let v25 : Int := (IntKind.wrap IntKind.i64 (t16.2.1 + (1 : Int)))
  kn (t16.1, (v25, ((t16.2.2.1.1, ((), ((), (t16.2.2.1.2.2.2.1, ())))), ((t23.1.1, (t23.1.2.1, (t23.1.2.2.1, (t23.1.2.2.2.1, ())))), ((t16.2.2.2.2.1.1, ((), ((), (t16.2.2.2.2.1.2.2.2.1, ())))), ((t16.2.2.2.2.2.1 ++ (List.set (List.replicate 1 ((List.replicate 32 (0 : Int)), ((0 : Int), (ByteArray.empty, ((0 : Int), ()))))) 0 (t16.2.2.2.2.2.2.1.1, ((IntKind.wrap IntKind.u32 v18), (v22, ((IntKind.wrap IntKind.u32 v24), ())))))), ()))))))) else (none)) | .inr (t26) => (ke ((t26.1.1, ((), ((), (t26.1.2.2.2.1, ())))), ((t26.2.1.1, (t26.2.1.2.1, (t26.2.1.2.2.1, (t26.2.1.2.2.2.1, ())))), ((t26.2.2.1.1, ((), ((), (t26.2.2.1.2.2.2.1, ())))), (t26.2.2.2.1, ()))))))
def bedrockref10_Take.l1 (k : Nat) : Nat → bedrockref10_Take.l1.σ → Option bedrockref10_Take.l1.τ := loopJ (bedrockref10_Take.l1.r k)
def bedrockref10_Take.l1.T : StT := ⟨us 4 ++ .ptr 0 [] :: us 2 ++ .ptr 1 [] :: .ptr 2 [] :: us 1 ++ .dat (.int .i64) :: .dat (.int .i64) :: us 154, [.pair (.dat (.int .u32)) (.pair (.nils) (.pair (.nils) (.dat (.pair (.int .u32) .unit)))), .dat (.pair .str (.pair (.int .i64) (.pair (.int .i64) (.pair (.int .i64) .unit)))), .pair (.dat (.int .u32)) (.pair (.vsl 3) (.pair (.nils) (.dat (.pair (.int .u32) .unit)))), .vec (.pair (.arr 32 (.int .u8)) (.pair (.int .u32) (.pair .str (.pair (.int .u32) .unit))))]⟩
def bedrockref10_Take.l1.os : List Out := [⟨(.exit 0), [.mask [4, 7, 8], .auto 0], ⟨us 4 ++ .ptr 0 [] :: us 2 ++ .ptr 1 [] :: .ptr 2 [] :: us 157, [.pair (.dat (.int .u32)) (.pair (.nils) (.pair (.nils) (.dat (.pair (.int .u32) .unit)))), .dat (.pair .str (.pair (.int .i64) (.pair (.int .i64) (.pair (.int .i64) .unit)))), .pair (.dat (.int .u32)) (.pair (.vsl 3) (.pair (.nils) (.dat (.pair (.int .u32) .unit)))), .vec (.pair (.arr 32 (.int .u8)) (.pair (.int .u32) (.pair .str (.pair (.int .u32) .unit))))]⟩⟩]
abbrev bedrockref10_Take.p5.σ : Type := Int × Int × (Int × (Unit × (Unit × (Int × Unit)))) × (ByteArray × (Int × (Int × (Int × Unit)))) × (Int × (Unit × (Unit × (Int × Unit)))) × (List ((List Int) × (Int × (ByteArray × (Int × Unit))))) × (List (Int × (ByteArray × Unit))) × Unit
abbrev bedrockref10_Take.p5.τ : Type := (Int × Int × (Int × (Unit × (Unit × (Int × Unit)))) × (ByteArray × (Int × (Int × (Int × Unit)))) × (Int × (Unit × (Unit × (Int × Unit)))) × (List ((List Int) × (Int × (ByteArray × (Int × Unit))))) × (List (Int × (ByteArray × Unit))) × Unit) ⊕ ((Int × (Unit × (Unit × (Int × Unit)))) × (ByteArray × (Int × (Int × (Int × Unit)))) × (Int × (Unit × (Unit × (Int × Unit)))) × (List ((List Int) × (Int × (ByteArray × (Int × Unit))))) × (List (Int × (ByteArray × Unit))) × Unit)
def bedrockref10_Take.p5.r (k : Nat) {ρ : Type} (x : bedrockref10_Take.p5.σ) (K : bedrockref10_Take.p5.τ → Option ρ) : Option ρ :=
  bif (decide (x.2.1 < x.1)) then (let v30 : Int := x.2.2.2.1.2.2.2.1
  bif (v30 == (0 : Int)) then (K (.inl (x.1, (x.2.1, ((x.2.2.1.1, ((), ((), (x.2.2.1.2.2.2.1, ())))), ((x.2.2.2.1.1, (x.2.2.2.1.2.1, (x.2.2.2.1.2.2.1, (x.2.2.2.1.2.2.2.1, ())))), ((x.2.2.2.2.1.1, ((), ((), (x.2.2.2.2.1.2.2.2.1, ())))), (x.2.2.2.2.2.1, (x.2.2.2.2.2.2.1, ()))))))))) else (K (.inr ((x.2.2.1.1, ((), ((), (x.2.2.1.2.2.2.1, ())))), ((x.2.2.2.1.1, (x.2.2.2.1.2.1, (x.2.2.2.1.2.2.1, (x.2.2.2.1.2.2.2.1, ())))), ((x.2.2.2.2.1.1, ((), ((), (x.2.2.2.2.1.2.2.2.1, ())))), (x.2.2.2.2.2.1, (x.2.2.2.2.2.2.1, ())))))))) else (K (.inr ((x.2.2.1.1, ((), ((), (x.2.2.1.2.2.2.1, ())))), ((x.2.2.2.1.1, (x.2.2.2.1.2.1, (x.2.2.2.1.2.2.1, (x.2.2.2.1.2.2.2.1, ())))), ((x.2.2.2.2.1.1, ((), ((), (x.2.2.2.2.1.2.2.2.1, ())))), (x.2.2.2.2.2.1, (x.2.2.2.2.2.2.1, ())))))))
def bedrockref10_Take.p5 (k : Nat) (x : bedrockref10_Take.p5.σ) : Option bedrockref10_Take.p5.τ := bedrockref10_Take.p5.r k x some
def bedrockref10_Take.p5.T : StT := ⟨us 4 ++ .ptr 0 [] :: us 2 ++ .ptr 1 [] :: .ptr 2 [] :: us 7 ++ .dat (.int .i64) :: .dat (.int .i64) :: us 148, [.pair (.dat (.int .u32)) (.pair (.nils) (.pair (.nils) (.dat (.pair (.int .u32) .unit)))), .dat (.pair .str (.pair (.int .i64) (.pair (.int .i64) (.pair (.int .i64) .unit)))), .pair (.dat (.int .u32)) (.pair (.vsl 3) (.pair (.vsl 4) (.dat (.pair (.int .u32) .unit)))), .vec (.pair (.arr 32 (.int .u8)) (.pair (.int .u32) (.pair .str (.pair (.int .u32) .unit)))), .vec (.pair (.int .u64) (.pair .str .unit))]⟩
def bedrockref10_Take.p5.os : List Out := [⟨.normal, [.mask [4, 7, 8, 16, 17], .auto 0], ⟨us 4 ++ .ptr 0 [] :: us 2 ++ .ptr 1 [] :: .ptr 2 [] :: us 7 ++ .dat (.int .i64) :: .dat (.int .i64) :: us 148, [.pair (.dat (.int .u32)) (.pair (.nils) (.pair (.nils) (.dat (.pair (.int .u32) .unit)))), .dat (.pair .str (.pair (.int .i64) (.pair (.int .i64) (.pair (.int .i64) .unit)))), .pair (.dat (.int .u32)) (.pair (.vsl 3) (.pair (.vsl 4) (.dat (.pair (.int .u32) .unit)))), .vec (.pair (.arr 32 (.int .u8)) (.pair (.int .u32) (.pair .str (.pair (.int .u32) .unit)))), .vec (.pair (.int .u64) (.pair .str .unit))]⟩⟩, ⟨(.exit 4), [.mask [4, 7, 8], .auto 0], ⟨us 4 ++ .ptr 0 [] :: us 2 ++ .ptr 1 [] :: .ptr 2 [] :: us 157, [.pair (.dat (.int .u32)) (.pair (.nils) (.pair (.nils) (.dat (.pair (.int .u32) .unit)))), .dat (.pair .str (.pair (.int .i64) (.pair (.int .i64) (.pair (.int .i64) .unit)))), .pair (.dat (.int .u32)) (.pair (.vsl 3) (.pair (.vsl 4) (.dat (.pair (.int .u32) .unit)))), .vec (.pair (.arr 32 (.int .u8)) (.pair (.int .u32) (.pair .str (.pair (.int .u32) .unit)))), .vec (.pair (.int .u64) (.pair .str .unit))]⟩⟩]
abbrev bedrockref10_Take.l4.σ : Type := Int × Int × (Int × (Unit × (Unit × (Int × Unit)))) × (ByteArray × (Int × (Int × (Int × Unit)))) × (Int × (Unit × (Unit × (Int × Unit)))) × (List ((List Int) × (Int × (ByteArray × (Int × Unit))))) × (List (Int × (ByteArray × Unit))) × Unit
abbrev bedrockref10_Take.l4.τ : Type := ((Int × (Unit × (Unit × (Int × Unit)))) × (ByteArray × (Int × (Int × (Int × Unit)))) × (Int × (Unit × (Unit × (Int × Unit)))) × (List ((List Int) × (Int × (ByteArray × (Int × Unit))))) × (List (Int × (ByteArray × Unit))) × Unit)
def bedrockref10_Take.l4.r (k : Nat) {ρ : Type} (x : bedrockref10_Take.l4.σ) (kn : bedrockref10_Take.l4.σ → Option ρ) (ke : bedrockref10_Take.l4.τ → Option ρ) : Option ρ :=
  (bedrockref10_Take.p5 k (x.1, (x.2.1, ((x.2.2.1.1, ((), ((), (x.2.2.1.2.2.2.1, ())))), ((x.2.2.2.1.1, (x.2.2.2.1.2.1, (x.2.2.2.1.2.2.1, (x.2.2.2.1.2.2.2.1, ())))), ((x.2.2.2.2.1.1, ((), ((), (x.2.2.2.2.1.2.2.2.1, ())))), (x.2.2.2.2.2.1, (x.2.2.2.2.2.2.1, ())))))))).bind fun t31 => (match t31 with | .inl t32 => ((bedrockref10_number k (t32.2.2.2.1.1, (t32.2.2.2.1.2.1, (t32.2.2.2.1.2.2.1, (t32.2.2.2.1.2.2.2.1, ())))) (8 : Int)).bind fun t33 => let v34 : Int := t33.2.1
  (bedrockref10_count k (t33.1.1, (t33.1.2.1, (t33.1.2.2.1, (t33.1.2.2.2.1, ())))) (520 : Int) (100 : Int)).bind fun t35 => let v36 : Int := t35.2.1
  (bedrockref10_bytes k (t35.1.1, (t35.1.2.1, (t35.1.2.2.1, (t35.1.2.2.2.1, ())))) v36).bind fun t37 => let v38 : ByteArray := t37.2.1
  bif (Nat.ble (((List.length t32.2.2.2.2.2.2.1) + (List.length (List.set (List.replicate 1 ((0 : Int), (ByteArray.empty, ()))) 0 (v34, (v38, ()))))) * 24) 140737488355328) then (let v39 : Int := (IntKind.wrap IntKind.i64 (t32.2.1 + (1 : Int)))
  kn (t32.1, (v39, ((t32.2.2.1.1, ((), ((), (t32.2.2.1.2.2.2.1, ())))), ((t37.1.1, (t37.1.2.1, (t37.1.2.2.1, (t37.1.2.2.2.1, ())))), ((t32.2.2.2.2.1.1, ((), ((), (t32.2.2.2.2.1.2.2.2.1, ())))), (t32.2.2.2.2.2.1, ((t32.2.2.2.2.2.2.1 ++ (List.set (List.replicate 1 ((0 : Int), (ByteArray.empty, ()))) 0 (v34, (v38, ())))), ())))))))) else (none)) | .inr (t40) => (ke ((t40.1.1, ((), ((), (t40.1.2.2.2.1, ())))), ((t40.2.1.1, (t40.2.1.2.1, (t40.2.1.2.2.1, (t40.2.1.2.2.2.1, ())))), ((t40.2.2.1.1, ((), ((), (t40.2.2.1.2.2.2.1, ())))), (t40.2.2.2.1, (t40.2.2.2.2.1, ())))))))
def bedrockref10_Take.l4 (k : Nat) : Nat → bedrockref10_Take.l4.σ → Option bedrockref10_Take.l4.τ := loopJ (bedrockref10_Take.l4.r k)
def bedrockref10_Take.l4.T : StT := ⟨us 4 ++ .ptr 0 [] :: us 2 ++ .ptr 1 [] :: .ptr 2 [] :: us 7 ++ .dat (.int .i64) :: .dat (.int .i64) :: us 148, [.pair (.dat (.int .u32)) (.pair (.nils) (.pair (.nils) (.dat (.pair (.int .u32) .unit)))), .dat (.pair .str (.pair (.int .i64) (.pair (.int .i64) (.pair (.int .i64) .unit)))), .pair (.dat (.int .u32)) (.pair (.vsl 3) (.pair (.vsl 4) (.dat (.pair (.int .u32) .unit)))), .vec (.pair (.arr 32 (.int .u8)) (.pair (.int .u32) (.pair .str (.pair (.int .u32) .unit)))), .vec (.pair (.int .u64) (.pair .str .unit))]⟩
def bedrockref10_Take.l4.os : List Out := [⟨(.exit 4), [.mask [4, 7, 8], .auto 0], ⟨us 4 ++ .ptr 0 [] :: us 2 ++ .ptr 1 [] :: .ptr 2 [] :: us 157, [.pair (.dat (.int .u32)) (.pair (.nils) (.pair (.nils) (.dat (.pair (.int .u32) .unit)))), .dat (.pair .str (.pair (.int .i64) (.pair (.int .i64) (.pair (.int .i64) .unit)))), .pair (.dat (.int .u32)) (.pair (.vsl 3) (.pair (.vsl 4) (.dat (.pair (.int .u32) .unit)))), .vec (.pair (.arr 32 (.int .u8)) (.pair (.int .u32) (.pair .str (.pair (.int .u32) .unit)))), .vec (.pair (.int .u64) (.pair .str .unit))]⟩⟩]
def bedrockref10_Take.c (k : Nat) {ρ : Type} (s : ByteArray) (at_1 : Int) (K : (Int × ((List ((List Int) × (Int × (ByteArray × (Int × Unit))))) × ((List (Int × (ByteArray × Unit))) × (Int × Unit)))) × Int × Int × Unit → Option ρ) : Option ρ :=
  (bedrockref10_Take.p0 k (s, (at_1, (((0 : Int), ((), ((), ((0 : Int), ())))), ())))).bind fun t1 => (match t1 with | .inl t2 => (K ((t2.2.2.1.1, ([], ([], (t2.2.2.1.2.2.2.1, ())))), (t2.1, (t2.2.1, ())))) | .inr (t3) => ((bedrockref10_number k (t3.1, (t3.2.1, (t3.2.1, ((0 : Int), ())))) (4 : Int)).bind fun t4 => let v5 : Int := t4.2.1
  (bedrockref10_count k (t4.1.1, (t4.1.2.1, (t4.1.2.2.1, (t4.1.2.2.2.1, ())))) (4096 : Int) (5 : Int)).bind fun t6 => let v7 : Int := t6.2.1
  (bedrockref10_Take.l1 k k (v7, ((0 : Int), ((t3.2.2.1.1, ((), ((), (t3.2.2.1.2.2.2.1, ())))), ((t6.1.1, (t6.1.2.1, (t6.1.2.2.1, (t6.1.2.2.2.1, ())))), (((IntKind.wrap IntKind.u32 v5), ((), ((), ((0 : Int), ())))), ([], ()))))))).bind fun t27 => (bedrockref10_count k (t27.2.1.1, (t27.2.1.2.1, (t27.2.1.2.2.1, (t27.2.1.2.2.2.1, ())))) (4096 : Int) (5 : Int)).bind fun t28 => let v29 : Int := t28.2.1
  (bedrockref10_Take.l4 k k (v29, ((0 : Int), ((t27.1.1, ((), ((), (t27.1.2.2.2.1, ())))), ((t28.1.1, (t28.1.2.1, (t28.1.2.2.1, (t28.1.2.2.2.1, ())))), ((t27.2.2.1.1, ((), ((), (t27.2.2.1.2.2.2.1, ())))), (t27.2.2.2.1, ([], ())))))))).bind fun t41 => (bedrockref10_number k (t41.2.1.1, (t41.2.1.2.1, (t41.2.1.2.2.1, (t41.2.1.2.2.2.1, ())))) (4 : Int)).bind fun t42 => let v43 : Int := t42.2.1
  let v44 : Int := t42.1.2.2.2.1
  bif (v44 != (0 : Int)) then (let v45 : Int := t42.1.2.2.2.1
  K (((0 : Int), ([], ([], ((0 : Int), ())))), ((0 : Int), (v45, ())))) else (let v46 : Int := t42.1.2.2.1
  K ((t41.2.2.1.1, (t41.2.2.2.1, (t41.2.2.2.2.1, ((IntKind.wrap IntKind.u32 v43), ())))), (v46, ((0 : Int), ()))))))
def bedrockref10_Take (k : Nat) (s : ByteArray) (at_1 : Int) : Option ((Int × ((List ((List Int) × (Int × (ByteArray × (Int × Unit))))) × ((List (Int × (ByteArray × Unit))) × (Int × Unit)))) × Int × Int × Unit) := bedrockref10_Take.c k s at_1 some
def bedrockref10_Take.tin : List Ty := [.str, (.int .i64)]
def bedrockref10_Take.tout : List Ty := [(.pair (.int .u32) (.pair (.sl (.pair (.arr 32 (.int .u8)) (.pair (.int .u32) (.pair .str (.pair (.int .u32) .unit))))) (.pair (.sl (.pair (.int .u64) (.pair .str .unit))) (.pair (.int .u32) .unit)))), (.int .i64), (.int .i64)]
def bedrockref10_Take.sem (k : Nat) : CallSem := callPure bedrockref10_Take.tin bedrockref10_Take.tout fun x => bedrockref10_Take k x.1 x.2.1
noncomputable def bedrockref10_Take.ctx (k : Nat) : Ctx := ⟨Try.prog, gam [(70, (bedrockref10_number.sem k)), (71, (bedrockref10_count.sem k)), (72, (bedrockref10_bytes.sem k))]⟩
theorem bedrockref10_Take.gok (k : Nat) : ∀ f, SemOK Try.prog f ((bedrockref10_Take.ctx k).Γ f) := (gam_cons (bedrockref10_number.sem_ok k) (gam_cons (bedrockref10_count.sem_ok k) (gam_cons (bedrockref10_bytes.sem_ok k) gam_nil)))
theorem bedrockref10_Take.p0.is (k : Nat) : PieceIs (bedrockref10_Take.ctx k) (codeAt (Func.code Try.f20) [1, 0]) (.nil) bedrockref10_Take.p0.T bedrockref10_Take.p0.os (bedrockref10_Take.p0.r k) := by
  intro ρ x K; kernel_rfl
theorem bedrockref10_Take.p0.ok (k : Nat) : StOK 0 Try.prog (codeAt (Func.code Try.f20) [1, 0]) (pieceSem bedrockref10_Take.p0.T bedrockref10_Take.p0.os (bedrockref10_Take.p0 k)) :=
  piece_ok (C := bedrockref10_Take.ctx k) (T := bedrockref10_Take.p0.T) (os := bedrockref10_Take.p0.os) (bedrockref10_Take.gok k) Try.mix (fun x K => bedrockref10_Take.p0.r k x K) AnnOK.nil (by kernel_rfl) (by kernel_rfl) (bedrockref10_Take.p0.is k)
theorem bedrockref10_Take.p2.is (k : Nat) : PieceIs (bedrockref10_Take.ctx k) (codeAt (Func.code Try.f20) [1, 1, 1, 1, 1, 1, 1, 0, 1, 0, 0, 0]) (.nil) bedrockref10_Take.p2.T bedrockref10_Take.p2.os (bedrockref10_Take.p2.r k) := by
  intro ρ x K; kernel_rfl
theorem bedrockref10_Take.p2.ok (k : Nat) : StOK 0 Try.prog (codeAt (Func.code Try.f20) [1, 1, 1, 1, 1, 1, 1, 0, 1, 0, 0, 0]) (pieceSem bedrockref10_Take.p2.T bedrockref10_Take.p2.os (bedrockref10_Take.p2 k)) :=
  piece_ok (C := bedrockref10_Take.ctx k) (T := bedrockref10_Take.p2.T) (os := bedrockref10_Take.p2.os) (bedrockref10_Take.gok k) Try.mix (fun x K => bedrockref10_Take.p2.r k x K) AnnOK.nil (by kernel_rfl) (by kernel_rfl) (bedrockref10_Take.p2.is k)
theorem bedrockref10_Take.l3.round (k : Nat) : RoundIs (bedrockref10_Take.ctx k) (codeAt (Func.code Try.f20) [1, 1, 1, 1, 1, 1, 1, 0, 1, 0, 0, 1, 0, 0, 1, 1, 1, 0, 1, 0, 0]) (.nil) bedrockref10_Take.l3.T [.mask [4, 7, 8, 10, 11, 12, 13, 14], .auto 0] bedrockref10_Take.l3.os (bedrockref10_Take.l3.r k) := by
  intro ρ x kn ke; kernel_rfl
theorem bedrockref10_Take.l3.ok (k : Nat) : StOK 0 Try.prog (.loop (codeAt (Func.code Try.f20) [1, 1, 1, 1, 1, 1, 1, 0, 1, 0, 0, 1, 0, 0, 1, 1, 1, 0, 1, 0, 0])) (pieceSem bedrockref10_Take.l3.T bedrockref10_Take.l3.os (bedrockref10_Take.l3 k k)) :=
  loop_ok (C := bedrockref10_Take.ctx k) (bedrockref10_Take.gok k) Try.mix AnnOK.nil (by kernel_rfl) (by kernel_rfl) (by kernel_rfl) (bedrockref10_Take.l3.round k) k
theorem bedrockref10_Take.l1.round (k : Nat) : RoundIs (bedrockref10_Take.ctx k) (codeAt (Func.code Try.f20) [1, 1, 1, 1, 1, 1, 1, 0, 1, 0, 0]) (.node [] none (.node [.mask [4, 7, 8, 10, 11], .auto 0] (some (pieceSem bedrockref10_Take.p2.T bedrockref10_Take.p2.os (bedrockref10_Take.p2 k))) .nil .nil) (.node [] none (.node [] none (.node [] none (.nil) (.node [] none (.nil) (.node [] none (.nil) (.node [] none (.node [] none (.nil) (.node [] none (.node [.mask [4, 7, 8, 10, 11, 12, 13, 14], .auto 0] (some (pieceSem bedrockref10_Take.l3.T bedrockref10_Take.l3.os (bedrockref10_Take.l3 k k))) .nil .nil) (.nil))) (.nil))))) (.nil)) (.nil))) bedrockref10_Take.l1.T [.mask [4, 7, 8, 10, 11], .auto 0] bedrockref10_Take.l1.os (bedrockref10_Take.l1.r k) := by
  intro ρ x kn ke; kernel_rfl
theorem bedrockref10_Take.l1.ok (k : Nat) : StOK 0 Try.prog (.loop (codeAt (Func.code Try.f20) [1, 1, 1, 1, 1, 1, 1, 0, 1, 0, 0])) (pieceSem bedrockref10_Take.l1.T bedrockref10_Take.l1.os (bedrockref10_Take.l1 k k)) :=
  loop_ok (C := bedrockref10_Take.ctx k) (bedrockref10_Take.gok k) Try.mix (AnnOK.seq (AnnOK.loop (by kernel_rfl) (bedrockref10_Take.p2.ok k)) (AnnOK.seq (AnnOK.block (AnnOK.seq AnnOK.nil (AnnOK.seq AnnOK.nil (AnnOK.seq AnnOK.nil (AnnOK.seq (AnnOK.seq AnnOK.nil (AnnOK.block (AnnOK.loop (by kernel_rfl) (bedrockref10_Take.l3.ok k)))) AnnOK.nil))))) AnnOK.nil)) (by kernel_rfl) (by kernel_rfl) (by kernel_rfl) (bedrockref10_Take.l1.round k) k
theorem bedrockref10_Take.p5.is (k : Nat) : PieceIs (bedrockref10_Take.ctx k) (codeAt (Func.code Try.f20) [1, 1, 1, 1, 1, 1, 1, 1, 1, 0, 1, 0, 0, 0]) (.nil) bedrockref10_Take.p5.T bedrockref10_Take.p5.os (bedrockref10_Take.p5.r k) := by
  intro ρ x K; kernel_rfl
theorem bedrockref10_Take.p5.ok (k : Nat) : StOK 0 Try.prog (codeAt (Func.code Try.f20) [1, 1, 1, 1, 1, 1, 1, 1, 1, 0, 1, 0, 0, 0]) (pieceSem bedrockref10_Take.p5.T bedrockref10_Take.p5.os (bedrockref10_Take.p5 k)) :=
  piece_ok (C := bedrockref10_Take.ctx k) (T := bedrockref10_Take.p5.T) (os := bedrockref10_Take.p5.os) (bedrockref10_Take.gok k) Try.mix (fun x K => bedrockref10_Take.p5.r k x K) AnnOK.nil (by kernel_rfl) (by kernel_rfl) (bedrockref10_Take.p5.is k)
theorem bedrockref10_Take.l4.round (k : Nat) : RoundIs (bedrockref10_Take.ctx k) (codeAt (Func.code Try.f20) [1, 1, 1, 1, 1, 1, 1, 1, 1, 0, 1, 0, 0]) (.node [] none (.node [.mask [4, 7, 8, 16, 17], .auto 0] (some (pieceSem bedrockref10_Take.p5.T bedrockref10_Take.p5.os (bedrockref10_Take.p5 k))) .nil .nil) (.nil)) bedrockref10_Take.l4.T [.mask [4, 7, 8, 16, 17], .auto 0] bedrockref10_Take.l4.os (bedrockref10_Take.l4.r k) := by
  intro ρ x kn ke; kernel_rfl
theorem bedrockref10_Take.l4.ok (k : Nat) : StOK 0 Try.prog (.loop (codeAt (Func.code Try.f20) [1, 1, 1, 1, 1, 1, 1, 1, 1, 0, 1, 0, 0])) (pieceSem bedrockref10_Take.l4.T bedrockref10_Take.l4.os (bedrockref10_Take.l4 k k)) :=
  loop_ok (C := bedrockref10_Take.ctx k) (bedrockref10_Take.gok k) Try.mix (AnnOK.seq (AnnOK.loop (by kernel_rfl) (bedrockref10_Take.p5.ok k)) AnnOK.nil) (by kernel_rfl) (by kernel_rfl) (by kernel_rfl) (bedrockref10_Take.l4.round k) k
def bedrockref10_Take.ann (k : Nat) : Ann := .node [] none (.nil) (.node [] none (.node [.mask [0, 1, 4], .auto 0] (some (pieceSem bedrockref10_Take.p0.T bedrockref10_Take.p0.os (bedrockref10_Take.p0 k))) .nil .nil) (.node [] none (.nil) (.node [] none (.nil) (.node [] none (.nil) (.node [] none (.nil) (.node [] none (.nil) (.node [] none (.node [] none (.nil) (.node [] none (.node [.mask [4, 7, 8, 10, 11], .auto 0, .own (.blk 2 [1]) (.pair (.arr 32 (.int .u8)) (.pair (.int .u32) (.pair .str (.pair (.int .u32) .unit))))] (some (pieceSem bedrockref10_Take.l1.T bedrockref10_Take.l1.os (bedrockref10_Take.l1 k k))) .nil .nil) (.nil))) (.node [] none (.nil) (.node [] none (.node [] none (.nil) (.node [] none (.node [.mask [4, 7, 8, 16, 17], .auto 0, .own (.blk 2 [2]) (.pair (.int .u64) (.pair .str .unit))] (some (pieceSem bedrockref10_Take.l4.T bedrockref10_Take.l4.os (bedrockref10_Take.l4 k k))) .nil .nil) (.nil))) (.nil))))))))))
theorem bedrockref10_Take.body (k : Nat) : BodyIs (bedrockref10_Take.ctx k) Try.f20 (Func.code Try.f20) (bedrockref10_Take.ann k) bedrockref10_Take.tin bedrockref10_Take.tout (fun x K => bedrockref10_Take.c k x.1 x.2.1 K) := by
  intro ρ x K; kernel_rfl
theorem bedrockref10_Take.sem_ok (k : Nat) : SemOK Try.prog 20 (bedrockref10_Take.sem k) :=
  callPure_ok (C := bedrockref10_Take.ctx k) (bedrockref10_Take.gok k) Try.mix (c := Func.code Try.f20) (ann := bedrockref10_Take.ann k) (tin := bedrockref10_Take.tin) (tout := bedrockref10_Take.tout) (fun x K => bedrockref10_Take.c k x.1 x.2.1 K) Try.func20 (by kernel_rfl) (by kernel_rfl) (AnnOK.seq AnnOK.nil (AnnOK.seq (AnnOK.loop (by kernel_rfl) (bedrockref10_Take.p0.ok k)) (AnnOK.seq AnnOK.nil (AnnOK.seq AnnOK.nil (AnnOK.seq AnnOK.nil (AnnOK.seq AnnOK.nil (AnnOK.seq AnnOK.nil (AnnOK.seq (AnnOK.seq AnnOK.nil (AnnOK.block (AnnOK.loop (by kernel_rfl) (bedrockref10_Take.l1.ok k)))) (AnnOK.seq AnnOK.nil (AnnOK.seq (AnnOK.seq AnnOK.nil (AnnOK.block (AnnOK.loop (by kernel_rfl) (bedrockref10_Take.l4.ok k)))) AnnOK.nil)))))))))) (bedrockref10_Take.body k)

/-! 91 bedrock/tx.long -/
def tx_long.c (k : Nat) {ρ : Type} (n : Int) (K : Int × Unit → Option ρ) : Option ρ :=
  (num_CountLong k (IntKind.wrap IntKind.u64 n)).bind fun t0 => let v1 : Int := (IntKind.wrap IntKind.i64 (t0.1 + n))
  K (v1, ())
def tx_long (k : Nat) (n : Int) : Option (Int × Unit) := tx_long.c k n some
def tx_long.tin : List Ty := [(.int .i64)]
def tx_long.tout : List Ty := [(.int .i64)]
def tx_long.sem (k : Nat) : CallSem := callPure tx_long.tin tx_long.tout fun x => tx_long k x.1
noncomputable def tx_long.ctx (k : Nat) : Ctx := ⟨Try.prog, gam [(90, (num_CountLong.sem k))]⟩
theorem tx_long.gok (k : Nat) : ∀ f, SemOK Try.prog f ((tx_long.ctx k).Γ f) := (gam_cons (num_CountLong.sem_ok k) gam_nil)
def tx_long.ann (k : Nat) : Ann := .nil
theorem tx_long.body (k : Nat) : BodyIs (tx_long.ctx k) Try.f91 (Func.code Try.f91) (tx_long.ann k) tx_long.tin tx_long.tout (fun x K => tx_long.c k x.1 K) := by
  intro ρ x K; kernel_rfl
theorem tx_long.sem_ok (k : Nat) : SemOK Try.prog 91 (tx_long.sem k) :=
  callPure_ok (C := tx_long.ctx k) (tx_long.gok k) Try.mix (c := Func.code Try.f91) (ann := tx_long.ann k) (tin := tx_long.tin) (tout := tx_long.tout) (fun x K => tx_long.c k x.1 K) Try.func91 (by kernel_rfl) (by kernel_rfl) AnnOK.nil (tx_long.body k)

/-! 45 bedrock/tx.Size -/
abbrev tx_Size.l0.σ : Type := Int × (List (((List Int) × (Int × Unit)) × (ByteArray × (Int × Unit)))) × Int × Int × (Int × ((List (((List Int) × (Int × Unit)) × (ByteArray × (Int × Unit)))) × ((List (Int × (ByteArray × Unit))) × (Int × Unit)))) × Unit
abbrev tx_Size.l0.τ : Type := (Int × (Int × ((List (((List Int) × (Int × Unit)) × (ByteArray × (Int × Unit)))) × ((List (Int × (ByteArray × Unit))) × (Int × Unit)))) × Unit)
def tx_Size.l0.r (k : Nat) {ρ : Type} (x : tx_Size.l0.σ) (kn : tx_Size.l0.σ → Option ρ) (ke : tx_Size.l0.τ → Option ρ) : Option ρ :=
  bif (decide (x.2.2.2.1 < x.2.2.1)) then (bif (decide (((0 : Int) ≤ x.2.2.2.1) ∧ (x.2.2.2.1 < (((List.length x.2.1) : Nat) : Int)))) then (let v11 : ByteArray := (List.getD x.2.1 (Int.toNat x.2.2.2.1) (((List.replicate 32 (0 : Int)), ((0 : Int), ())), (ByteArray.empty, ((0 : Int), ())))).2.1
  (tx_long k (((ByteArray.size v11) : Nat) : Int)).bind fun t12 => let v13 : Int := (IntKind.wrap IntKind.i64 ((40 : Int) + t12.1))
  let v14 : Int := (IntKind.wrap IntKind.i64 (x.1 + v13))
  let v15 : Int := (IntKind.wrap IntKind.i64 (x.2.2.2.1 + (1 : Int)))
  kn (v14, (x.2.1, (x.2.2.1, (v15, ((x.2.2.2.2.1.1, (x.2.2.2.2.1.2.1, (x.2.2.2.2.1.2.2.1, (x.2.2.2.2.1.2.2.2.1, ())))), ())))))) else (none)) else (ke (x.1, ((x.2.2.2.2.1.1, (x.2.2.2.2.1.2.1, (x.2.2.2.2.1.2.2.1, (x.2.2.2.2.1.2.2.2.1, ())))), ())))
def tx_Size.l0 (k : Nat) : Nat → tx_Size.l0.σ → Option tx_Size.l0.τ := loopJ (tx_Size.l0.r k)
def tx_Size.l0.T : StT := ⟨us 1 ++ .ptr 0 [] :: us 1 ++ .dat (.int .i64) :: us 18 ++ .dat (.sl (.pair (.pair (.arr 32 (.int .u8)) (.pair (.int .u32) .unit)) (.pair .str (.pair (.int .u32) .unit)))) :: .dat (.int .i64) :: .dat (.int .i64) :: us 27, [.dat (.pair (.int .u32) (.pair (.sl (.pair (.pair (.arr 32 (.int .u8)) (.pair (.int .u32) .unit)) (.pair .str (.pair (.int .u32) .unit)))) (.pair (.sl (.pair (.int .u64) (.pair .str .unit))) (.pair (.int .u32) .unit))))]⟩
def tx_Size.l0.os : List Out := [⟨(.exit 0), [.mask [1, 3], .auto 0], ⟨us 1 ++ .ptr 0 [] :: us 1 ++ .dat (.int .i64) :: us 48, [.dat (.pair (.int .u32) (.pair (.sl (.pair (.pair (.arr 32 (.int .u8)) (.pair (.int .u32) .unit)) (.pair .str (.pair (.int .u32) .unit)))) (.pair (.sl (.pair (.int .u64) (.pair .str .unit))) (.pair (.int .u32) .unit))))]⟩⟩]
abbrev tx_Size.l1.σ : Type := Int × (List (Int × (ByteArray × Unit))) × Int × Int × Unit
abbrev tx_Size.l1.τ : Type := (Int × Unit)
def tx_Size.l1.r (k : Nat) {ρ : Type} (x : tx_Size.l1.σ) (kn : tx_Size.l1.σ → Option ρ) (ke : tx_Size.l1.τ → Option ρ) : Option ρ :=
  bif (decide (x.2.2.2.1 < x.2.2.1)) then (bif (decide (((0 : Int) ≤ x.2.2.2.1) ∧ (x.2.2.2.1 < (((List.length x.2.1) : Nat) : Int)))) then (let v19 : ByteArray := (List.getD x.2.1 (Int.toNat x.2.2.2.1) ((0 : Int), (ByteArray.empty, ()))).2.1
  (tx_long k (((ByteArray.size v19) : Nat) : Int)).bind fun t20 => let v21 : Int := (IntKind.wrap IntKind.i64 ((8 : Int) + t20.1))
  let v22 : Int := (IntKind.wrap IntKind.i64 (x.1 + v21))
  let v23 : Int := (IntKind.wrap IntKind.i64 (x.2.2.2.1 + (1 : Int)))
  kn (v22, (x.2.1, (x.2.2.1, (v23, ()))))) else (none)) else (ke (x.1, ()))
def tx_Size.l1 (k : Nat) : Nat → tx_Size.l1.σ → Option tx_Size.l1.τ := loopJ (tx_Size.l1.r k)
def tx_Size.l1.T : StT := ⟨us 3 ++ .dat (.int .i64) :: us 33 ++ .dat (.sl (.pair (.int .u64) (.pair .str .unit))) :: .dat (.int .i64) :: .dat (.int .i64) :: us 12, []⟩
def tx_Size.l1.os : List Out := [⟨(.exit 2), [.mask [3], .auto 0], ⟨us 3 ++ .dat (.int .i64) :: us 48, []⟩⟩]
def tx_Size.c (k : Nat) {ρ : Type} (t : (Int × ((List (((List Int) × (Int × Unit)) × (ByteArray × (Int × Unit)))) × ((List (Int × (ByteArray × Unit))) × (Int × Unit))))) (K : Int × Unit → Option ρ) : Option ρ :=
  let v0 : (List (((List Int) × (Int × Unit)) × (ByteArray × (Int × Unit)))) := t.2.1
  let v1 : Int := (((List.length v0) : Nat) : Int)
  (num_CountLong k (IntKind.wrap IntKind.u64 v1)).bind fun t2 => let v3 : Int := (IntKind.wrap IntKind.i64 ((4 : Int) + t2.1))
  let v4 : (List (Int × (ByteArray × Unit))) := t.2.2.1
  let v5 : Int := (((List.length v4) : Nat) : Int)
  (num_CountLong k (IntKind.wrap IntKind.u64 v5)).bind fun t6 => let v7 : Int := (IntKind.wrap IntKind.i64 (v3 + t6.1))
  let v8 : Int := (IntKind.wrap IntKind.i64 (v7 + (4 : Int)))
  let v9 : (List (((List Int) × (Int × Unit)) × (ByteArray × (Int × Unit)))) := t.2.1
  let v10 : Int := (((List.length v9) : Nat) : Int)
  (tx_Size.l0 k k (v8, (v9, (v10, ((0 : Int), ((t.1, (t.2.1, (t.2.2.1, (t.2.2.2.1, ())))), ())))))).bind fun t16 => let v17 : (List (Int × (ByteArray × Unit))) := t16.2.1.2.2.1
  let v18 : Int := (((List.length v17) : Nat) : Int)
  (tx_Size.l1 k k (t16.1, (v17, (v18, ((0 : Int), ()))))).bind fun t24 => K (t24.1, ())
def tx_Size (k : Nat) (t : (Int × ((List (((List Int) × (Int × Unit)) × (ByteArray × (Int × Unit)))) × ((List (Int × (ByteArray × Unit))) × (Int × Unit))))) : Option (Int × Unit) := tx_Size.c k t some
def tx_Size.tin : List Ty := [(.pair (.int .u32) (.pair (.sl (.pair (.pair (.arr 32 (.int .u8)) (.pair (.int .u32) .unit)) (.pair .str (.pair (.int .u32) .unit)))) (.pair (.sl (.pair (.int .u64) (.pair .str .unit))) (.pair (.int .u32) .unit))))]
def tx_Size.tout : List Ty := [(.int .i64)]
def tx_Size.sem (k : Nat) : CallSem := callPure tx_Size.tin tx_Size.tout fun x => tx_Size k x.1
noncomputable def tx_Size.ctx (k : Nat) : Ctx := ⟨Try.prog, gam [(90, (num_CountLong.sem k)), (91, (tx_long.sem k))]⟩
theorem tx_Size.gok (k : Nat) : ∀ f, SemOK Try.prog f ((tx_Size.ctx k).Γ f) := (gam_cons (num_CountLong.sem_ok k) (gam_cons (tx_long.sem_ok k) gam_nil))
theorem tx_Size.l0.round (k : Nat) : RoundIs (tx_Size.ctx k) (codeAt (Func.code Try.f45) [1, 1, 0, 1, 0, 0]) (.nil) tx_Size.l0.T [.mask [1, 3, 22, 23, 24], .auto 0] tx_Size.l0.os (tx_Size.l0.r k) := by
  intro ρ x kn ke; kernel_rfl
theorem tx_Size.l0.ok (k : Nat) : StOK 0 Try.prog (.loop (codeAt (Func.code Try.f45) [1, 1, 0, 1, 0, 0])) (pieceSem tx_Size.l0.T tx_Size.l0.os (tx_Size.l0 k k)) :=
  loop_ok (C := tx_Size.ctx k) (tx_Size.gok k) Try.mix AnnOK.nil (by kernel_rfl) (by kernel_rfl) (by kernel_rfl) (tx_Size.l0.round k) k
theorem tx_Size.l1.round (k : Nat) : RoundIs (tx_Size.ctx k) (codeAt (Func.code Try.f45) [1, 1, 1, 0, 1, 0, 0]) (.nil) tx_Size.l1.T [.mask [3, 37, 38, 39], .auto 0] tx_Size.l1.os (tx_Size.l1.r k) := by
  intro ρ x kn ke; kernel_rfl
theorem tx_Size.l1.ok (k : Nat) : StOK 0 Try.prog (.loop (codeAt (Func.code Try.f45) [1, 1, 1, 0, 1, 0, 0])) (pieceSem tx_Size.l1.T tx_Size.l1.os (tx_Size.l1 k k)) :=
  loop_ok (C := tx_Size.ctx k) (tx_Size.gok k) Try.mix AnnOK.nil (by kernel_rfl) (by kernel_rfl) (by kernel_rfl) (tx_Size.l1.round k) k
def tx_Size.ann (k : Nat) : Ann := .node [] none (.nil) (.node [] none (.nil) (.node [] none (.node [] none (.nil) (.node [] none (.node [.mask [1, 3, 22, 23, 24], .auto 0] (some (pieceSem tx_Size.l0.T tx_Size.l0.os (tx_Size.l0 k k))) .nil .nil) (.nil))) (.node [] none (.node [] none (.nil) (.node [] none (.node [.mask [3, 37, 38, 39], .auto 0] (some (pieceSem tx_Size.l1.T tx_Size.l1.os (tx_Size.l1 k k))) .nil .nil) (.nil))) (.nil))))
theorem tx_Size.body (k : Nat) : BodyIs (tx_Size.ctx k) Try.f45 (Func.code Try.f45) (tx_Size.ann k) tx_Size.tin tx_Size.tout (fun x K => tx_Size.c k x.1 K) := by
  intro ρ x K; kernel_rfl
theorem tx_Size.sem_ok (k : Nat) : SemOK Try.prog 45 (tx_Size.sem k) :=
  callPure_ok (C := tx_Size.ctx k) (tx_Size.gok k) Try.mix (c := Func.code Try.f45) (ann := tx_Size.ann k) (tin := tx_Size.tin) (tout := tx_Size.tout) (fun x K => tx_Size.c k x.1 K) Try.func45 (by kernel_rfl) (by kernel_rfl) (AnnOK.seq AnnOK.nil (AnnOK.seq AnnOK.nil (AnnOK.seq (AnnOK.seq AnnOK.nil (AnnOK.block (AnnOK.loop (by kernel_rfl) (tx_Size.l0.ok k)))) (AnnOK.seq (AnnOK.seq AnnOK.nil (AnnOK.block (AnnOK.loop (by kernel_rfl) (tx_Size.l1.ok k)))) AnnOK.nil)))) (tx_Size.body k)

/-! 77 (*bedrock/num.Writer).U32 · with blocks -/
abbrev num_Writer_U32.τ : Type := (((Unit × (Unit × Unit)) × Unit) × (List Int) × Unit)
def num_Writer_U32.c (k : Nat) {ρ : Type} (n : Int) (b0 : ((Unit × (Unit × Unit)) × Unit)) (b1 : (List Int)) (K : num_Writer_U32.τ → Option ρ) : Option ρ :=
  (num_lay k (IntKind.wrap IntKind.u64 n) (4 : Int)).bind fun t0 => (num_Writer_Bytes k t0.1 (((), ((), ())), ()) b1).bind fun t1 => K ((((), ((), ())), ()), (t1.2.1, ()))
def num_Writer_U32 (k : Nat) (n : Int) (b0 : ((Unit × (Unit × Unit)) × Unit)) (b1 : (List Int)) : Option num_Writer_U32.τ := num_Writer_U32.c k n b0 b1 some
def num_Writer_U32.T : CallT := ⟨[.ptr 0 [], .dat (.int .u32)], [.pair (.pair (.sfp 0 [0] 180) (.pair (.vbs 1) (.dat .unit))) (.dat .unit), .vec (.int .u8)], 1⟩
def num_Writer_U32.os : List Out := [⟨.ret, [.auto 1], ⟨[], [.pair (.pair (.sfp 0 [0] 180) (.pair (.vbs 1) (.dat .unit))) (.dat .unit), .vec (.int .u8)]⟩⟩]
def num_Writer_U32.sem (k : Nat) : CallSem := callH num_Writer_U32.T num_Writer_U32.os fun x => num_Writer_U32 k x.1 x.2.1 x.2.2.1
noncomputable def num_Writer_U32.ctx (k : Nat) : Ctx := ⟨Try.prog, gam [(109, (num_lay.sem k)), (95, (num_Writer_Bytes.sem k))]⟩
theorem num_Writer_U32.gok (k : Nat) : ∀ f, SemOK Try.prog f ((num_Writer_U32.ctx k).Γ f) := (gam_cons (num_lay.sem_ok k) (gam_cons (num_Writer_Bytes.sem_ok k) gam_nil))
def num_Writer_U32.ann (k : Nat) : Ann := .nil
theorem num_Writer_U32.body (k : Nat) : BodyH (num_Writer_U32.ctx k) Try.f77 (Func.code Try.f77) (num_Writer_U32.ann k) num_Writer_U32.T num_Writer_U32.os (fun x K => num_Writer_U32.c k x.1 x.2.1 x.2.2.1 K) := by
  intro ρ x K; kernel_rfl
theorem num_Writer_U32.sem_ok (k : Nat) : SemOK Try.prog 77 (num_Writer_U32.sem k) :=
  callH_ok (C := num_Writer_U32.ctx k) (num_Writer_U32.gok k) Try.mix (c := Func.code Try.f77) (ann := num_Writer_U32.ann k) (T := num_Writer_U32.T) (os := num_Writer_U32.os) (fun x K => num_Writer_U32.c k x.1 x.2.1 x.2.2.1 K) Try.func77 (by kernel_rfl) (by kernel_rfl) AnnOK.nil (num_Writer_U32.body k) (by kernel_rfl) (by kernel_rfl) (by kernel_rfl)

/-! 110 bedrock/num.Count -/
def num_Count.c (k : Nat) {ρ : Type} (n : Int) (K : ByteArray × Unit → Option ρ) : Option ρ :=
  (num_CountLong k n).bind fun t0 => bif (t0.1 == (1 : Int)) then ((num_lay k n (1 : Int)).bind fun t1 => K (t1.1, ())) else (bif (t0.1 == (3 : Int)) then ((num_lay k (253 : Int) (1 : Int)).bind fun t2 => (num_lay k n (2 : Int)).bind fun t3 => bif (Nat.ble ((ByteArray.size t2.1) + (ByteArray.size t3.1)) 9223372036854775807) then (let v4 : ByteArray := (t2.1 ++ t3.1)
  K (v4, ())) else (none)) else (bif (t0.1 == (5 : Int)) then ((num_lay k (254 : Int) (1 : Int)).bind fun t5 => (num_lay k n (4 : Int)).bind fun t6 => bif (Nat.ble ((ByteArray.size t5.1) + (ByteArray.size t6.1)) 9223372036854775807) then (let v7 : ByteArray := (t5.1 ++ t6.1)
  K (v7, ())) else (none)) else ((num_lay k (255 : Int) (1 : Int)).bind fun t8 => (num_lay k n (8 : Int)).bind fun t9 => bif (Nat.ble ((ByteArray.size t8.1) + (ByteArray.size t9.1)) 9223372036854775807) then (let v10 : ByteArray := (t8.1 ++ t9.1)
  K (v10, ())) else (none))))
def num_Count (k : Nat) (n : Int) : Option (ByteArray × Unit) := num_Count.c k n some
def num_Count.tin : List Ty := [(.int .u64)]
def num_Count.tout : List Ty := [.str]
def num_Count.sem (k : Nat) : CallSem := callPure num_Count.tin num_Count.tout fun x => num_Count k x.1
noncomputable def num_Count.ctx (k : Nat) : Ctx := ⟨Try.prog, gam [(90, (num_CountLong.sem k)), (109, (num_lay.sem k))]⟩
theorem num_Count.gok (k : Nat) : ∀ f, SemOK Try.prog f ((num_Count.ctx k).Γ f) := (gam_cons (num_CountLong.sem_ok k) (gam_cons (num_lay.sem_ok k) gam_nil))
def num_Count.ann (k : Nat) : Ann := .nil
theorem num_Count.body (k : Nat) : BodyIs (num_Count.ctx k) Try.f110 (Func.code Try.f110) (num_Count.ann k) num_Count.tin num_Count.tout (fun x K => num_Count.c k x.1 K) := by
  intro ρ x K; kernel_rfl
theorem num_Count.sem_ok (k : Nat) : SemOK Try.prog 110 (num_Count.sem k) :=
  callPure_ok (C := num_Count.ctx k) (num_Count.gok k) Try.mix (c := Func.code Try.f110) (ann := num_Count.ann k) (tin := num_Count.tin) (tout := num_Count.tout) (fun x K => num_Count.c k x.1 K) Try.func110 (by kernel_rfl) (by kernel_rfl) AnnOK.nil (num_Count.body k)

/-! 78 (*bedrock/num.Writer).Count · with blocks -/
abbrev num_Writer_Count.τ : Type := (((Unit × (Unit × Unit)) × Unit) × (List Int) × Unit)
def num_Writer_Count.c (k : Nat) {ρ : Type} (n : Int) (b0 : ((Unit × (Unit × Unit)) × Unit)) (b1 : (List Int)) (K : num_Writer_Count.τ → Option ρ) : Option ρ :=
  (num_Count k n).bind fun t0 => (num_Writer_Bytes k t0.1 (((), ((), ())), ()) b1).bind fun t1 => K ((((), ((), ())), ()), (t1.2.1, ()))
def num_Writer_Count (k : Nat) (n : Int) (b0 : ((Unit × (Unit × Unit)) × Unit)) (b1 : (List Int)) : Option num_Writer_Count.τ := num_Writer_Count.c k n b0 b1 some
def num_Writer_Count.T : CallT := ⟨[.ptr 0 [], .dat (.int .u64)], [.pair (.pair (.sfp 0 [0] 180) (.pair (.vbs 1) (.dat .unit))) (.dat .unit), .vec (.int .u8)], 1⟩
def num_Writer_Count.os : List Out := [⟨.ret, [.auto 1], ⟨[], [.pair (.pair (.sfp 0 [0] 180) (.pair (.vbs 1) (.dat .unit))) (.dat .unit), .vec (.int .u8)]⟩⟩]
def num_Writer_Count.sem (k : Nat) : CallSem := callH num_Writer_Count.T num_Writer_Count.os fun x => num_Writer_Count k x.1 x.2.1 x.2.2.1
noncomputable def num_Writer_Count.ctx (k : Nat) : Ctx := ⟨Try.prog, gam [(110, (num_Count.sem k)), (95, (num_Writer_Bytes.sem k))]⟩
theorem num_Writer_Count.gok (k : Nat) : ∀ f, SemOK Try.prog f ((num_Writer_Count.ctx k).Γ f) := (gam_cons (num_Count.sem_ok k) (gam_cons (num_Writer_Bytes.sem_ok k) gam_nil))
def num_Writer_Count.ann (k : Nat) : Ann := .nil
theorem num_Writer_Count.body (k : Nat) : BodyH (num_Writer_Count.ctx k) Try.f78 (Func.code Try.f78) (num_Writer_Count.ann k) num_Writer_Count.T num_Writer_Count.os (fun x K => num_Writer_Count.c k x.1 x.2.1 x.2.2.1 K) := by
  intro ρ x K; kernel_rfl
theorem num_Writer_Count.sem_ok (k : Nat) : SemOK Try.prog 78 (num_Writer_Count.sem k) :=
  callH_ok (C := num_Writer_Count.ctx k) (num_Writer_Count.gok k) Try.mix (c := Func.code Try.f78) (ann := num_Writer_Count.ann k) (T := num_Writer_Count.T) (os := num_Writer_Count.os) (fun x K => num_Writer_Count.c k x.1 x.2.1 x.2.2.1 K) Try.func78 (by kernel_rfl) (by kernel_rfl) AnnOK.nil (num_Writer_Count.body k) (by kernel_rfl) (by kernel_rfl) (by kernel_rfl)

/-! 79 (*bedrock/num.Writer).Hash · with blocks -/
abbrev num_Writer_Hash.τ : Type := (((Unit × (Unit × Unit)) × Unit) × (List Int) × Unit)
def num_Writer_Hash.c (k : Nat) {ρ : Type} (h : (List Int)) (b0 : ((Unit × (Unit × Unit)) × Unit)) (b1 : (List Int)) (K : num_Writer_Hash.τ → Option ρ) : Option ρ :=
  let v0 : ByteArray := (bytesOf (List.take 32 (List.drop 0 h)))
  (num_Writer_Bytes k v0 (((), ((), ())), ()) b1).bind fun t1 => K ((((), ((), ())), ()), (t1.2.1, ()))
def num_Writer_Hash (k : Nat) (h : (List Int)) (b0 : ((Unit × (Unit × Unit)) × Unit)) (b1 : (List Int)) : Option num_Writer_Hash.τ := num_Writer_Hash.c k h b0 b1 some
def num_Writer_Hash.T : CallT := ⟨[.ptr 0 [], .dat (.arr 32 (.int .u8))], [.pair (.pair (.sfp 0 [0] 180) (.pair (.vbs 1) (.dat .unit))) (.dat .unit), .vec (.int .u8)], 1⟩
def num_Writer_Hash.os : List Out := [⟨.ret, [.auto 1], ⟨[], [.pair (.pair (.sfp 0 [0] 180) (.pair (.vbs 1) (.dat .unit))) (.dat .unit), .vec (.int .u8)]⟩⟩]
def num_Writer_Hash.sem (k : Nat) : CallSem := callH num_Writer_Hash.T num_Writer_Hash.os fun x => num_Writer_Hash k x.1 x.2.1 x.2.2.1
noncomputable def num_Writer_Hash.ctx (k : Nat) : Ctx := ⟨Try.prog, gam [(95, (num_Writer_Bytes.sem k))]⟩
theorem num_Writer_Hash.gok (k : Nat) : ∀ f, SemOK Try.prog f ((num_Writer_Hash.ctx k).Γ f) := (gam_cons (num_Writer_Bytes.sem_ok k) gam_nil)
def num_Writer_Hash.ann (k : Nat) : Ann := .nil
theorem num_Writer_Hash.body (k : Nat) : BodyH (num_Writer_Hash.ctx k) Try.f79 (Func.code Try.f79) (num_Writer_Hash.ann k) num_Writer_Hash.T num_Writer_Hash.os (fun x K => num_Writer_Hash.c k x.1 x.2.1 x.2.2.1 K) := by
  intro ρ x K; kernel_rfl
theorem num_Writer_Hash.sem_ok (k : Nat) : SemOK Try.prog 79 (num_Writer_Hash.sem k) :=
  callH_ok (C := num_Writer_Hash.ctx k) (num_Writer_Hash.gok k) Try.mix (c := Func.code Try.f79) (ann := num_Writer_Hash.ann k) (T := num_Writer_Hash.T) (os := num_Writer_Hash.os) (fun x K => num_Writer_Hash.c k x.1 x.2.1 x.2.2.1 K) Try.func79 (by kernel_rfl) (by kernel_rfl) AnnOK.nil (num_Writer_Hash.body k) (by kernel_rfl) (by kernel_rfl) (by kernel_rfl)

/-! 80 (*bedrock/num.Writer).String · with blocks -/
abbrev num_Writer_String.τ : Type := (((Unit × (Unit × Unit)) × Unit) × (List Int) × Unit)
def num_Writer_String.c (k : Nat) {ρ : Type} (s : ByteArray) (b0 : ((Unit × (Unit × Unit)) × Unit)) (b1 : (List Int)) (K : num_Writer_String.τ → Option ρ) : Option ρ :=
  (num_Writer_Count k (IntKind.wrap IntKind.u64 (((ByteArray.size s) : Nat) : Int)) (((), ((), ())), ()) b1).bind fun t0 => (num_Writer_Bytes k s (((), ((), ())), ()) t0.2.1).bind fun t1 => K ((((), ((), ())), ()), (t1.2.1, ()))
def num_Writer_String (k : Nat) (s : ByteArray) (b0 : ((Unit × (Unit × Unit)) × Unit)) (b1 : (List Int)) : Option num_Writer_String.τ := num_Writer_String.c k s b0 b1 some
def num_Writer_String.T : CallT := ⟨[.ptr 0 [], .dat .str], [.pair (.pair (.sfp 0 [0] 180) (.pair (.vbs 1) (.dat .unit))) (.dat .unit), .vec (.int .u8)], 1⟩
def num_Writer_String.os : List Out := [⟨.ret, [.auto 1], ⟨[], [.pair (.pair (.sfp 0 [0] 180) (.pair (.vbs 1) (.dat .unit))) (.dat .unit), .vec (.int .u8)]⟩⟩]
def num_Writer_String.sem (k : Nat) : CallSem := callH num_Writer_String.T num_Writer_String.os fun x => num_Writer_String k x.1 x.2.1 x.2.2.1
noncomputable def num_Writer_String.ctx (k : Nat) : Ctx := ⟨Try.prog, gam [(78, (num_Writer_Count.sem k)), (95, (num_Writer_Bytes.sem k))]⟩
theorem num_Writer_String.gok (k : Nat) : ∀ f, SemOK Try.prog f ((num_Writer_String.ctx k).Γ f) := (gam_cons (num_Writer_Count.sem_ok k) (gam_cons (num_Writer_Bytes.sem_ok k) gam_nil))
def num_Writer_String.ann (k : Nat) : Ann := .nil
theorem num_Writer_String.body (k : Nat) : BodyH (num_Writer_String.ctx k) Try.f80 (Func.code Try.f80) (num_Writer_String.ann k) num_Writer_String.T num_Writer_String.os (fun x K => num_Writer_String.c k x.1 x.2.1 x.2.2.1 K) := by
  intro ρ x K; kernel_rfl
theorem num_Writer_String.sem_ok (k : Nat) : SemOK Try.prog 80 (num_Writer_String.sem k) :=
  callH_ok (C := num_Writer_String.ctx k) (num_Writer_String.gok k) Try.mix (c := Func.code Try.f80) (ann := num_Writer_String.ann k) (T := num_Writer_String.T) (os := num_Writer_String.os) (fun x K => num_Writer_String.c k x.1 x.2.1 x.2.2.1 K) Try.func80 (by kernel_rfl) (by kernel_rfl) AnnOK.nil (num_Writer_String.body k) (by kernel_rfl) (by kernel_rfl) (by kernel_rfl)

/-! 32 bedrock/tx.Encode -/
abbrev tx_Encode.l0.σ : Type := (List (((List Int) × (Int × Unit)) × (ByteArray × (Int × Unit)))) × Int × Int × (Int × ((List (((List Int) × (Int × Unit)) × (ByteArray × (Int × Unit)))) × ((List (Int × (ByteArray × Unit))) × (Int × Unit)))) × Unit
abbrev tx_Encode.l0.τ : Type := (ByteArray × Int × Unit) ⊕ ((Int × ((List (((List Int) × (Int × Unit)) × (ByteArray × (Int × Unit)))) × ((List (Int × (ByteArray × Unit))) × (Int × Unit)))) × Unit)
def tx_Encode.l0.r (k : Nat) {ρ : Type} (x : tx_Encode.l0.σ) (kn : tx_Encode.l0.σ → Option ρ) (ke : tx_Encode.l0.τ → Option ρ) : Option ρ :=
  bif (decide (x.2.2.1 < x.2.1)) then (bif (decide (((0 : Int) ≤ x.2.2.1) ∧ (x.2.2.1 < (((List.length x.1) : Nat) : Int)))) then (let v2 : ByteArray := (List.getD x.1 (Int.toNat x.2.2.1) (((List.replicate 32 (0 : Int)), ((0 : Int), ())), (ByteArray.empty, ((0 : Int), ())))).2.1
  bif (decide ((((ByteArray.size v2) : Nat) : Int) > (520 : Int))) then (ke (.inl ((⟨(List.toArray [])⟩ : ByteArray), ((100 : Int), ())))) else (let v3 : Int := (IntKind.wrap IntKind.i64 (x.2.2.1 + (1 : Int)))
  kn (x.1, (x.2.1, (v3, ((x.2.2.2.1.1, (x.2.2.2.1.2.1, (x.2.2.2.1.2.2.1, (x.2.2.2.1.2.2.2.1, ())))), ())))))) else (none)) else (ke (.inr ((x.2.2.2.1.1, (x.2.2.2.1.2.1, (x.2.2.2.1.2.2.1, (x.2.2.2.1.2.2.2.1, ())))), ())))
def tx_Encode.l0 (k : Nat) : Nat → tx_Encode.l0.σ → Option tx_Encode.l0.τ := loopJ (tx_Encode.l0.r k)
def tx_Encode.l0.T : StT := ⟨us 1 ++ .ptr 0 [] :: us 12 ++ .dat (.sl (.pair (.pair (.arr 32 (.int .u8)) (.pair (.int .u32) .unit)) (.pair .str (.pair (.int .u32) .unit)))) :: .dat (.int .i64) :: .dat (.int .i64) :: us 88, [.dat (.pair (.int .u32) (.pair (.sl (.pair (.pair (.arr 32 (.int .u8)) (.pair (.int .u32) .unit)) (.pair .str (.pair (.int .u32) .unit)))) (.pair (.sl (.pair (.int .u64) (.pair .str .unit))) (.pair (.int .u32) .unit))))]⟩
def tx_Encode.l0.os : List Out := [⟨.ret, [.mask [2, 3], .auto 0], ⟨us 2 ++ .dat .str :: .dat (.int .i64) :: us 101, []⟩⟩, ⟨(.exit 0), [.mask [1], .auto 0], ⟨us 1 ++ .ptr 0 [] :: us 103, [.dat (.pair (.int .u32) (.pair (.sl (.pair (.pair (.arr 32 (.int .u8)) (.pair (.int .u32) .unit)) (.pair .str (.pair (.int .u32) .unit)))) (.pair (.sl (.pair (.int .u64) (.pair .str .unit))) (.pair (.int .u32) .unit))))]⟩⟩]
abbrev tx_Encode.l1.σ : Type := (List (Int × (ByteArray × Unit))) × Int × Int × (Int × ((List (((List Int) × (Int × Unit)) × (ByteArray × (Int × Unit)))) × ((List (Int × (ByteArray × Unit))) × (Int × Unit)))) × Unit
abbrev tx_Encode.l1.τ : Type := (ByteArray × Int × Unit) ⊕ ((Int × ((List (((List Int) × (Int × Unit)) × (ByteArray × (Int × Unit)))) × ((List (Int × (ByteArray × Unit))) × (Int × Unit)))) × Unit)
def tx_Encode.l1.r (k : Nat) {ρ : Type} (x : tx_Encode.l1.σ) (kn : tx_Encode.l1.σ → Option ρ) (ke : tx_Encode.l1.τ → Option ρ) : Option ρ :=
  bif (decide (x.2.2.1 < x.2.1)) then (bif (decide (((0 : Int) ≤ x.2.2.1) ∧ (x.2.2.1 < (((List.length x.1) : Nat) : Int)))) then (let v9 : ByteArray := (List.getD x.1 (Int.toNat x.2.2.1) ((0 : Int), (ByteArray.empty, ()))).2.1
  bif (decide ((((ByteArray.size v9) : Nat) : Int) > (520 : Int))) then (ke (.inl ((⟨(List.toArray [])⟩ : ByteArray), ((100 : Int), ())))) else (let v10 : Int := (IntKind.wrap IntKind.i64 (x.2.2.1 + (1 : Int)))
  kn (x.1, (x.2.1, (v10, ((x.2.2.2.1.1, (x.2.2.2.1.2.1, (x.2.2.2.1.2.2.1, (x.2.2.2.1.2.2.2.1, ())))), ())))))) else (none)) else (ke (.inr ((x.2.2.2.1.1, (x.2.2.2.1.2.1, (x.2.2.2.1.2.2.1, (x.2.2.2.1.2.2.2.1, ())))), ())))
def tx_Encode.l1 (k : Nat) : Nat → tx_Encode.l1.σ → Option tx_Encode.l1.τ := loopJ (tx_Encode.l1.r k)
def tx_Encode.l1.T : StT := ⟨us 1 ++ .ptr 0 [] :: us 24 ++ .dat (.sl (.pair (.int .u64) (.pair .str .unit))) :: .dat (.int .i64) :: .dat (.int .i64) :: us 76, [.dat (.pair (.int .u32) (.pair (.sl (.pair (.pair (.arr 32 (.int .u8)) (.pair (.int .u32) .unit)) (.pair .str (.pair (.int .u32) .unit)))) (.pair (.sl (.pair (.int .u64) (.pair .str .unit))) (.pair (.int .u32) .unit))))]⟩
def tx_Encode.l1.os : List Out := [⟨.ret, [.mask [2, 3], .auto 0], ⟨us 2 ++ .dat .str :: .dat (.int .i64) :: us 101, []⟩⟩, ⟨(.exit 2), [.mask [1], .auto 0], ⟨us 1 ++ .ptr 0 [] :: us 103, [.dat (.pair (.int .u32) (.pair (.sl (.pair (.pair (.arr 32 (.int .u8)) (.pair (.int .u32) .unit)) (.pair .str (.pair (.int .u32) .unit)))) (.pair (.sl (.pair (.int .u64) (.pair .str .unit))) (.pair (.int .u32) .unit))))]⟩⟩]
abbrev tx_Encode.l2.σ : Type := (List (((List Int) × (Int × Unit)) × (ByteArray × (Int × Unit)))) × Int × Int × (Int × ((List (((List Int) × (Int × Unit)) × (ByteArray × (Int × Unit)))) × ((List (Int × (ByteArray × Unit))) × (Int × Unit)))) × ((Unit × (Unit × Unit)) × Unit) × (List Int) × Unit
abbrev tx_Encode.l2.τ : Type := ((Int × ((List (((List Int) × (Int × Unit)) × (ByteArray × (Int × Unit)))) × ((List (Int × (ByteArray × Unit))) × (Int × Unit)))) × ((Unit × (Unit × Unit)) × Unit) × (List Int) × Unit)
def tx_Encode.l2.r (k : Nat) {ρ : Type} (x : tx_Encode.l2.σ) (kn : tx_Encode.l2.σ → Option ρ) (ke : tx_Encode.l2.τ → Option ρ) : Option ρ :=
  bif (decide (x.2.2.1 < x.2.1)) then (bif (decide (((0 : Int) ≤ x.2.2.1) ∧ (x.2.2.1 < (((List.length x.1) : Nat) : Int)))) then (let v23 : (List Int) := (List.getD x.1 (Int.toNat x.2.2.1) (((List.replicate 32 (0 : Int)), ((0 : Int), ())), (ByteArray.empty, ((0 : Int), ())))).1.1
  (num_Writer_Hash k v23 (((), ((), ())), ()) x.2.2.2.2.2.1).bind fun t24 => let v25 : Int := (List.getD x.1 (Int.toNat x.2.2.1) (((List.replicate 32 (0 : Int)), ((0 : Int), ())), (ByteArray.empty, ((0 : Int), ())))).1.2.1
  (num_Writer_U32 k v25 (((), ((), ())), ()) t24.2.1).bind fun t26 => let v27 : ByteArray := (List.getD x.1 (Int.toNat x.2.2.1) (((List.replicate 32 (0 : Int)), ((0 : Int), ())), (ByteArray.empty, ((0 : Int), ())))).2.1
  (num_Writer_String k v27 (((), ((), ())), ()) t26.2.1).bind fun t28 => let v29 : Int := (List.getD x.1 (Int.toNat x.2.2.1) (((List.replicate 32 (0 : Int)), ((0 : Int), ())), (ByteArray.empty, ((0 : Int), ())))).2.2.1
  (num_Writer_U32 k v29 (((), ((), ())), ()) t28.2.1).bind fun t30 => let v31 : Int := (IntKind.wrap IntKind.i64 (x.2.2.1 + (1 : Int)))
  kn (x.1, (x.2.1, (v31, ((x.2.2.2.1.1, (x.2.2.2.1.2.1, (x.2.2.2.1.2.2.1, (x.2.2.2.1.2.2.2.1, ())))), ((((), ((), ())), ()), (t30.2.1, ()))))))) else (none)) else (ke ((x.2.2.2.1.1, (x.2.2.2.1.2.1, (x.2.2.2.1.2.2.1, (x.2.2.2.1.2.2.2.1, ())))), ((((), ((), ())), ()), (x.2.2.2.2.2.1, ()))))
def tx_Encode.l2 (k : Nat) : Nat → tx_Encode.l2.σ → Option tx_Encode.l2.τ := loopJ (tx_Encode.l2.r k)
def tx_Encode.l2.T : StT := ⟨us 1 ++ .ptr 0 [] :: us 6 ++ .ptr 1 [] :: us 43 ++ .dat (.sl (.pair (.pair (.arr 32 (.int .u8)) (.pair (.int .u32) .unit)) (.pair .str (.pair (.int .u32) .unit)))) :: .dat (.int .i64) :: .dat (.int .i64) :: us 50, [.dat (.pair (.int .u32) (.pair (.sl (.pair (.pair (.arr 32 (.int .u8)) (.pair (.int .u32) .unit)) (.pair .str (.pair (.int .u32) .unit)))) (.pair (.sl (.pair (.int .u64) (.pair .str .unit))) (.pair (.int .u32) .unit)))), .pair (.pair (.sfp 1 [0] 180) (.pair (.vbs 2) (.dat .unit))) (.dat .unit), .vec (.int .u8)]⟩
def tx_Encode.l2.os : List Out := [⟨(.exit 4), [.mask [1, 8], .auto 0], ⟨us 1 ++ .ptr 0 [] :: us 6 ++ .ptr 1 [] :: us 96, [.dat (.pair (.int .u32) (.pair (.sl (.pair (.pair (.arr 32 (.int .u8)) (.pair (.int .u32) .unit)) (.pair .str (.pair (.int .u32) .unit)))) (.pair (.sl (.pair (.int .u64) (.pair .str .unit))) (.pair (.int .u32) .unit)))), .pair (.pair (.sfp 1 [0] 180) (.pair (.vbs 2) (.dat .unit))) (.dat .unit), .vec (.int .u8)]⟩⟩]
abbrev tx_Encode.l3.σ : Type := (List (Int × (ByteArray × Unit))) × Int × Int × (Int × ((List (((List Int) × (Int × Unit)) × (ByteArray × (Int × Unit)))) × ((List (Int × (ByteArray × Unit))) × (Int × Unit)))) × ((Unit × (Unit × Unit)) × Unit) × (List Int) × Unit
abbrev tx_Encode.l3.τ : Type := ((Int × ((List (((List Int) × (Int × Unit)) × (ByteArray × (Int × Unit)))) × ((List (Int × (ByteArray × Unit))) × (Int × Unit)))) × ((Unit × (Unit × Unit)) × Unit) × (List Int) × Unit)
def tx_Encode.l3.r (k : Nat) {ρ : Type} (x : tx_Encode.l3.σ) (kn : tx_Encode.l3.σ → Option ρ) (ke : tx_Encode.l3.τ → Option ρ) : Option ρ :=
  bif (decide (x.2.2.1 < x.2.1)) then (bif (decide (((0 : Int) ≤ x.2.2.1) ∧ (x.2.2.1 < (((List.length x.1) : Nat) : Int)))) then (let v38 : Int := (List.getD x.1 (Int.toNat x.2.2.1) ((0 : Int), (ByteArray.empty, ()))).1
  (num_Writer_U64 k v38 (((), ((), ())), ()) x.2.2.2.2.2.1).bind fun t39 => let v40 : ByteArray := (List.getD x.1 (Int.toNat x.2.2.1) ((0 : Int), (ByteArray.empty, ()))).2.1
  (num_Writer_String k v40 (((), ((), ())), ()) t39.2.1).bind fun t41 => let v42 : Int := (IntKind.wrap IntKind.i64 (x.2.2.1 + (1 : Int)))
  kn (x.1, (x.2.1, (v42, ((x.2.2.2.1.1, (x.2.2.2.1.2.1, (x.2.2.2.1.2.2.1, (x.2.2.2.1.2.2.2.1, ())))), ((((), ((), ())), ()), (t41.2.1, ()))))))) else (none)) else (ke ((x.2.2.2.1.1, (x.2.2.2.1.2.1, (x.2.2.2.1.2.2.1, (x.2.2.2.1.2.2.2.1, ())))), ((((), ((), ())), ()), (x.2.2.2.2.2.1, ()))))
def tx_Encode.l3 (k : Nat) : Nat → tx_Encode.l3.σ → Option tx_Encode.l3.τ := loopJ (tx_Encode.l3.r k)
def tx_Encode.l3.T : StT := ⟨us 1 ++ .ptr 0 [] :: us 6 ++ .ptr 1 [] :: us 75 ++ .dat (.sl (.pair (.int .u64) (.pair .str .unit))) :: .dat (.int .i64) :: .dat (.int .i64) :: us 18, [.dat (.pair (.int .u32) (.pair (.sl (.pair (.pair (.arr 32 (.int .u8)) (.pair (.int .u32) .unit)) (.pair .str (.pair (.int .u32) .unit)))) (.pair (.sl (.pair (.int .u64) (.pair .str .unit))) (.pair (.int .u32) .unit)))), .pair (.pair (.sfp 1 [0] 180) (.pair (.vbs 2) (.dat .unit))) (.dat .unit), .vec (.int .u8)]⟩
def tx_Encode.l3.os : List Out := [⟨(.exit 6), [.mask [1, 8], .auto 0], ⟨us 1 ++ .ptr 0 [] :: us 6 ++ .ptr 1 [] :: us 96, [.dat (.pair (.int .u32) (.pair (.sl (.pair (.pair (.arr 32 (.int .u8)) (.pair (.int .u32) .unit)) (.pair .str (.pair (.int .u32) .unit)))) (.pair (.sl (.pair (.int .u64) (.pair .str .unit))) (.pair (.int .u32) .unit)))), .pair (.pair (.sfp 1 [0] 180) (.pair (.vbs 2) (.dat .unit))) (.dat .unit), .vec (.int .u8)]⟩⟩]
def tx_Encode.c (k : Nat) {ρ : Type} (t : (Int × ((List (((List Int) × (Int × Unit)) × (ByteArray × (Int × Unit)))) × ((List (Int × (ByteArray × Unit))) × (Int × Unit))))) (K : ByteArray × Int × Unit → Option ρ) : Option ρ :=
  let v0 : (List (((List Int) × (Int × Unit)) × (ByteArray × (Int × Unit)))) := t.2.1
  let v1 : Int := (((List.length v0) : Nat) : Int)
  (tx_Encode.l0 k k (v0, (v1, ((0 : Int), ((t.1, (t.2.1, (t.2.2.1, (t.2.2.2.1, ())))), ()))))).bind fun t4 => (match t4 with | .inl t5 => (K (t5.1, (t5.2.1, ()))) | .inr (t6) => (let v7 : (List (Int × (ByteArray × Unit))) := t6.1.2.2.1
  let v8 : Int := (((List.length v7) : Nat) : Int)
  (tx_Encode.l1 k k (v7, (v8, ((0 : Int), ((t6.1.1, (t6.1.2.1, (t6.1.2.2.1, (t6.1.2.2.2.1, ())))), ()))))).bind fun t11 => (match t11 with | .inl t12 => (K (t12.1, (t12.2.1, ()))) | .inr (t13) => ((tx_Size k (t13.1.1, (t13.1.2.1, (t13.1.2.2.1, (t13.1.2.2.2.1, ()))))).bind fun t14 => bif (decide (t14.1 > (4096 : Int))) then (K ((⟨(List.toArray [])⟩ : ByteArray), ((101 : Int), ()))) else ((num_NewWriter k ).bind fun t15 => let v16 : Int := t13.1.1
  (num_Writer_U32 k v16 (((), ((), ())), ()) t15.2.1).bind fun t17 => let v18 : (List (((List Int) × (Int × Unit)) × (ByteArray × (Int × Unit)))) := t13.1.2.1
  let v19 : Int := (((List.length v18) : Nat) : Int)
  (num_Writer_Count k (IntKind.wrap IntKind.u64 v19) (((), ((), ())), ()) t17.2.1).bind fun t20 => let v21 : (List (((List Int) × (Int × Unit)) × (ByteArray × (Int × Unit)))) := t13.1.2.1
  let v22 : Int := (((List.length v21) : Nat) : Int)
  (tx_Encode.l2 k k (v21, (v22, ((0 : Int), ((t13.1.1, (t13.1.2.1, (t13.1.2.2.1, (t13.1.2.2.2.1, ())))), ((((), ((), ())), ()), (t20.2.1, ()))))))).bind fun t32 => let v33 : (List (Int × (ByteArray × Unit))) := t32.1.2.2.1
  let v34 : Int := (((List.length v33) : Nat) : Int)
  (num_Writer_Count k (IntKind.wrap IntKind.u64 v34) (((), ((), ())), ()) t32.2.2.1).bind fun t35 => let v36 : (List (Int × (ByteArray × Unit))) := t32.1.2.2.1
  let v37 : Int := (((List.length v36) : Nat) : Int)
  (tx_Encode.l3 k k (v36, (v37, ((0 : Int), ((t32.1.1, (t32.1.2.1, (t32.1.2.2.1, (t32.1.2.2.2.1, ())))), ((((), ((), ())), ()), (t35.2.1, ()))))))).bind fun t43 => let v44 : Int := t43.1.2.2.2.1
  (num_Writer_U32 k v44 (((), ((), ())), ()) t43.2.2.1).bind fun t45 => (num_Writer_Text k (((), ((), ())), ()) t45.2.1).bind fun t46 => K (t46.1, ((0 : Int), ())))))))
def tx_Encode (k : Nat) (t : (Int × ((List (((List Int) × (Int × Unit)) × (ByteArray × (Int × Unit)))) × ((List (Int × (ByteArray × Unit))) × (Int × Unit))))) : Option (ByteArray × Int × Unit) := tx_Encode.c k t some
def tx_Encode.tin : List Ty := [(.pair (.int .u32) (.pair (.sl (.pair (.pair (.arr 32 (.int .u8)) (.pair (.int .u32) .unit)) (.pair .str (.pair (.int .u32) .unit)))) (.pair (.sl (.pair (.int .u64) (.pair .str .unit))) (.pair (.int .u32) .unit))))]
def tx_Encode.tout : List Ty := [.str, (.int .i64)]
def tx_Encode.sem (k : Nat) : CallSem := callPure tx_Encode.tin tx_Encode.tout fun x => tx_Encode k x.1
noncomputable def tx_Encode.ctx (k : Nat) : Ctx := ⟨Try.prog, gam [(45, (tx_Size.sem k)), (76, (num_NewWriter.sem k)), (77, (num_Writer_U32.sem k)), (78, (num_Writer_Count.sem k)), (79, (num_Writer_Hash.sem k)), (80, (num_Writer_String.sem k)), (81, (num_Writer_U64.sem k)), (82, (num_Writer_Text.sem k))]⟩
theorem tx_Encode.gok (k : Nat) : ∀ f, SemOK Try.prog f ((tx_Encode.ctx k).Γ f) := (gam_cons (tx_Size.sem_ok k) (gam_cons (num_NewWriter.sem_ok k) (gam_cons (num_Writer_U32.sem_ok k) (gam_cons (num_Writer_Count.sem_ok k) (gam_cons (num_Writer_Hash.sem_ok k) (gam_cons (num_Writer_String.sem_ok k) (gam_cons (num_Writer_U64.sem_ok k) (gam_cons (num_Writer_Text.sem_ok k) gam_nil))))))))
theorem tx_Encode.l0.round (k : Nat) : RoundIs (tx_Encode.ctx k) (codeAt (Func.code Try.f32) [1, 0, 1, 0, 0]) (.nil) tx_Encode.l0.T [.mask [1, 14, 15, 16], .auto 0] tx_Encode.l0.os (tx_Encode.l0.r k) := by
  intro ρ x kn ke; kernel_rfl
theorem tx_Encode.l0.ok (k : Nat) : StOK 0 Try.prog (.loop (codeAt (Func.code Try.f32) [1, 0, 1, 0, 0])) (pieceSem tx_Encode.l0.T tx_Encode.l0.os (tx_Encode.l0 k k)) :=
  loop_ok (C := tx_Encode.ctx k) (tx_Encode.gok k) Try.mix AnnOK.nil (by kernel_rfl) (by kernel_rfl) (by kernel_rfl) (tx_Encode.l0.round k) k
theorem tx_Encode.l1.round (k : Nat) : RoundIs (tx_Encode.ctx k) (codeAt (Func.code Try.f32) [1, 1, 0, 1, 0, 0]) (.nil) tx_Encode.l1.T [.mask [1, 26, 27, 28], .auto 0] tx_Encode.l1.os (tx_Encode.l1.r k) := by
  intro ρ x kn ke; kernel_rfl
theorem tx_Encode.l1.ok (k : Nat) : StOK 0 Try.prog (.loop (codeAt (Func.code Try.f32) [1, 1, 0, 1, 0, 0])) (pieceSem tx_Encode.l1.T tx_Encode.l1.os (tx_Encode.l1 k k)) :=
  loop_ok (C := tx_Encode.ctx k) (tx_Encode.gok k) Try.mix AnnOK.nil (by kernel_rfl) (by kernel_rfl) (by kernel_rfl) (tx_Encode.l1.round k) k
theorem tx_Encode.l2.round (k : Nat) : RoundIs (tx_Encode.ctx k) (codeAt (Func.code Try.f32) [1, 1, 1, 1, 1, 1, 1, 0, 1, 0, 0]) (.nil) tx_Encode.l2.T [.mask [1, 8, 52, 53, 54], .auto 0] tx_Encode.l2.os (tx_Encode.l2.r k) := by
  intro ρ x kn ke; kernel_rfl
theorem tx_Encode.l2.ok (k : Nat) : StOK 0 Try.prog (.loop (codeAt (Func.code Try.f32) [1, 1, 1, 1, 1, 1, 1, 0, 1, 0, 0])) (pieceSem tx_Encode.l2.T tx_Encode.l2.os (tx_Encode.l2 k k)) :=
  loop_ok (C := tx_Encode.ctx k) (tx_Encode.gok k) Try.mix AnnOK.nil (by kernel_rfl) (by kernel_rfl) (by kernel_rfl) (tx_Encode.l2.round k) k
theorem tx_Encode.l3.round (k : Nat) : RoundIs (tx_Encode.ctx k) (codeAt (Func.code Try.f32) [1, 1, 1, 1, 1, 1, 1, 1, 1, 0, 1, 0, 0]) (.nil) tx_Encode.l3.T [.mask [1, 8, 84, 85, 86], .auto 0] tx_Encode.l3.os (tx_Encode.l3.r k) := by
  intro ρ x kn ke; kernel_rfl
theorem tx_Encode.l3.ok (k : Nat) : StOK 0 Try.prog (.loop (codeAt (Func.code Try.f32) [1, 1, 1, 1, 1, 1, 1, 1, 1, 0, 1, 0, 0])) (pieceSem tx_Encode.l3.T tx_Encode.l3.os (tx_Encode.l3 k k)) :=
  loop_ok (C := tx_Encode.ctx k) (tx_Encode.gok k) Try.mix AnnOK.nil (by kernel_rfl) (by kernel_rfl) (by kernel_rfl) (tx_Encode.l3.round k) k
def tx_Encode.ann (k : Nat) : Ann := .node [] none (.nil) (.node [] none (.node [] none (.nil) (.node [] none (.node [.mask [1, 14, 15, 16], .auto 0] (some (pieceSem tx_Encode.l0.T tx_Encode.l0.os (tx_Encode.l0 k k))) .nil .nil) (.nil))) (.node [] none (.node [] none (.nil) (.node [] none (.node [.mask [1, 26, 27, 28], .auto 0] (some (pieceSem tx_Encode.l1.T tx_Encode.l1.os (tx_Encode.l1 k k))) .nil .nil) (.nil))) (.node [] none (.nil) (.node [] none (.nil) (.node [] none (.nil) (.node [] none (.nil) (.node [] none (.node [] none (.nil) (.node [] none (.node [.mask [1, 8, 52, 53, 54], .auto 0] (some (pieceSem tx_Encode.l2.T tx_Encode.l2.os (tx_Encode.l2 k k))) .nil .nil) (.nil))) (.node [] none (.nil) (.node [] none (.node [] none (.nil) (.node [] none (.node [.mask [1, 8, 84, 85, 86], .auto 0] (some (pieceSem tx_Encode.l3.T tx_Encode.l3.os (tx_Encode.l3 k k))) .nil .nil) (.nil))) (.nil))))))))))
theorem tx_Encode.body (k : Nat) : BodyIs (tx_Encode.ctx k) Try.f32 (Func.code Try.f32) (tx_Encode.ann k) tx_Encode.tin tx_Encode.tout (fun x K => tx_Encode.c k x.1 K) := by
  intro ρ x K; kernel_rfl
theorem tx_Encode.sem_ok (k : Nat) : SemOK Try.prog 32 (tx_Encode.sem k) :=
  callPure_ok (C := tx_Encode.ctx k) (tx_Encode.gok k) Try.mix (c := Func.code Try.f32) (ann := tx_Encode.ann k) (tin := tx_Encode.tin) (tout := tx_Encode.tout) (fun x K => tx_Encode.c k x.1 K) Try.func32 (by kernel_rfl) (by kernel_rfl) (AnnOK.seq AnnOK.nil (AnnOK.seq (AnnOK.seq AnnOK.nil (AnnOK.block (AnnOK.loop (by kernel_rfl) (tx_Encode.l0.ok k)))) (AnnOK.seq (AnnOK.seq AnnOK.nil (AnnOK.block (AnnOK.loop (by kernel_rfl) (tx_Encode.l1.ok k)))) (AnnOK.seq AnnOK.nil (AnnOK.seq AnnOK.nil (AnnOK.seq AnnOK.nil (AnnOK.seq AnnOK.nil (AnnOK.seq (AnnOK.seq AnnOK.nil (AnnOK.block (AnnOK.loop (by kernel_rfl) (tx_Encode.l2.ok k)))) (AnnOK.seq AnnOK.nil (AnnOK.seq (AnnOK.seq AnnOK.nil (AnnOK.block (AnnOK.loop (by kernel_rfl) (tx_Encode.l3.ok k)))) AnnOK.nil)))))))))) (tx_Encode.body k)

/-! 24 bedrock/tx.Decode -/
def tx_Decode.c (k : Nat) {ρ : Type} (s : ByteArray) (K : (Int × ((List (((List Int) × (Int × Unit)) × (ByteArray × (Int × Unit)))) × ((List (Int × (ByteArray × Unit))) × (Int × Unit)))) × Int × Unit → Option ρ) : Option ρ :=
  (tx_Take k s (0 : Int)).bind fun t0 => let v1 : Int := t0.2.1
  let v2 : Int := t0.2.2.1
  bif (v2 != (0 : Int)) then (K (((0 : Int), ([], ([], ((0 : Int), ())))), (v2, ()))) else (bif (v1 != (((ByteArray.size s) : Nat) : Int)) then (K (((0 : Int), ([], ([], ((0 : Int), ())))), ((5 : Int), ()))) else (K ((t0.1.1, (t0.1.2.1, (t0.1.2.2.1, (t0.1.2.2.2.1, ())))), ((0 : Int), ()))))
def tx_Decode (k : Nat) (s : ByteArray) : Option ((Int × ((List (((List Int) × (Int × Unit)) × (ByteArray × (Int × Unit)))) × ((List (Int × (ByteArray × Unit))) × (Int × Unit)))) × Int × Unit) := tx_Decode.c k s some
def tx_Decode.tin : List Ty := [.str]
def tx_Decode.tout : List Ty := [(.pair (.int .u32) (.pair (.sl (.pair (.pair (.arr 32 (.int .u8)) (.pair (.int .u32) .unit)) (.pair .str (.pair (.int .u32) .unit)))) (.pair (.sl (.pair (.int .u64) (.pair .str .unit))) (.pair (.int .u32) .unit)))), (.int .i64)]
def tx_Decode.sem (k : Nat) : CallSem := callPure tx_Decode.tin tx_Decode.tout fun x => tx_Decode k x.1
noncomputable def tx_Decode.ctx (k : Nat) : Ctx := ⟨Try.prog, gam [(19, (tx_Take.sem k))]⟩
theorem tx_Decode.gok (k : Nat) : ∀ f, SemOK Try.prog f ((tx_Decode.ctx k).Γ f) := (gam_cons (tx_Take.sem_ok k) gam_nil)
def tx_Decode.ann (k : Nat) : Ann := .nil
theorem tx_Decode.body (k : Nat) : BodyIs (tx_Decode.ctx k) Try.f24 (Func.code Try.f24) (tx_Decode.ann k) tx_Decode.tin tx_Decode.tout (fun x K => tx_Decode.c k x.1 K) := by
  intro ρ x K; kernel_rfl
theorem tx_Decode.sem_ok (k : Nat) : SemOK Try.prog 24 (tx_Decode.sem k) :=
  callPure_ok (C := tx_Decode.ctx k) (tx_Decode.gok k) Try.mix (c := Func.code Try.f24) (ann := tx_Decode.ann k) (tin := tx_Decode.tin) (tout := tx_Decode.tout) (fun x K => tx_Decode.c k x.1 K) Try.func24 (by kernel_rfl) (by kernel_rfl) AnnOK.nil (tx_Decode.body k)

/-! 21 bedrock/bedrocklaw10.awake -/
def bedrocklaw10_awake.c (k : Nat) {ρ : Type}  (K : Bool × Unit → Option ρ) : Option ρ :=
  (tx_Encode k ((1 : Int), ((List.set (List.replicate 1 (((List.replicate 32 (0 : Int)), ((0 : Int), ())), (ByteArray.empty, ((0 : Int), ())))) 0 (((List.replicate 32 (0 : Int)), ((0 : Int), ())), ((⟨(List.toArray [107])⟩ : ByteArray), ((0 : Int), ())))), ((List.set (List.replicate 1 ((0 : Int), (ByteArray.empty, ()))) 0 ((5 : Int), ((⟨(List.toArray [])⟩ : ByteArray), ()))), ((0 : Int), ()))))).bind fun t0 => let v1 : ByteArray := t0.1
  let v2 : Int := t0.2.1
  (tx_Decode k v1).bind fun t3 => let v4 : Int := t3.2.1
  bif (v2 == (0 : Int)) then (bif (v4 == (0 : Int)) then (bif ((((ByteArray.size v1) : Nat) : Int) == (61 : Int)) then (let v5 : (List (Int × (ByteArray × Unit))) := t3.1.2.2.1
  bif (decide (((0 : Int) ≤ (0 : Int)) ∧ ((0 : Int) < (((List.length v5) : Nat) : Int)))) then (let v6 : Int := (List.getD v5 0 ((0 : Int), (ByteArray.empty, ()))).1
  K ((v6 == (5 : Int)), ())) else (none)) else (K (false, ()))) else (K (false, ()))) else (K (false, ()))
def bedrocklaw10_awake (k : Nat)  : Option (Bool × Unit) := bedrocklaw10_awake.c k  some
def bedrocklaw10_awake.tin : List Ty := []
def bedrocklaw10_awake.tout : List Ty := [.bool]
def bedrocklaw10_awake.sem (k : Nat) : CallSem := callPure bedrocklaw10_awake.tin bedrocklaw10_awake.tout fun x => bedrocklaw10_awake k 
noncomputable def bedrocklaw10_awake.ctx (k : Nat) : Ctx := ⟨Try.prog, gam [(32, (tx_Encode.sem k)), (24, (tx_Decode.sem k))]⟩
theorem bedrocklaw10_awake.gok (k : Nat) : ∀ f, SemOK Try.prog f ((bedrocklaw10_awake.ctx k).Γ f) := (gam_cons (tx_Encode.sem_ok k) (gam_cons (tx_Decode.sem_ok k) gam_nil))
def bedrocklaw10_awake.ann (k : Nat) : Ann := .nil
theorem bedrocklaw10_awake.body (k : Nat) : BodyIs (bedrocklaw10_awake.ctx k) Try.f21 (Func.code Try.f21) (bedrocklaw10_awake.ann k) bedrocklaw10_awake.tin bedrocklaw10_awake.tout (fun x K => bedrocklaw10_awake.c k  K) := by
  intro ρ x K; kernel_rfl
theorem bedrocklaw10_awake.sem_ok (k : Nat) : SemOK Try.prog 21 (bedrocklaw10_awake.sem k) :=
  callPure_ok (C := bedrocklaw10_awake.ctx k) (bedrocklaw10_awake.gok k) Try.mix (c := Func.code Try.f21) (ann := bedrocklaw10_awake.ann k) (tin := bedrocklaw10_awake.tin) (tout := bedrocklaw10_awake.tout) (fun x K => bedrocklaw10_awake.c k  K) Try.func21 (by kernel_rfl) (by kernel_rfl) AnnOK.nil (bedrocklaw10_awake.body k)

/-! 23 bedrock/bedrocklaw10.given -/
abbrev bedrocklaw10_given.l0.σ : Type := (List (((List Int) × (Int × Unit)) × (ByteArray × (Int × Unit)))) × Int × Int × (Int × ((List (((List Int) × (Int × Unit)) × (ByteArray × (Int × Unit)))) × ((List (Int × (ByteArray × Unit))) × (Int × Unit)))) × (Int × (Unit × (Unit × (Int × Unit)))) × (Int × (Unit × (Unit × (Int × Unit)))) × (List ((List Int) × (Int × (ByteArray × (Int × Unit))))) × Unit
abbrev bedrocklaw10_given.l0.τ : Type := ((Int × ((List (((List Int) × (Int × Unit)) × (ByteArray × (Int × Unit)))) × ((List (Int × (ByteArray × Unit))) × (Int × Unit)))) × (Int × (Unit × (Unit × (Int × Unit)))) × (Int × (Unit × (Unit × (Int × Unit)))) × (List ((List Int) × (Int × (ByteArray × (Int × Unit))))) × Unit)
def bedrocklaw10_given.l0.r (k : Nat) {ρ : Type} (x : bedrocklaw10_given.l0.σ) (kn : bedrocklaw10_given.l0.σ → Option ρ) (ke : bedrocklaw10_given.l0.τ → Option ρ) : Option ρ :=
  bif (decide (x.2.2.1 < x.2.1)) then (bif (decide (((0 : Int) ≤ x.2.2.1) ∧ (x.2.2.1 < (((List.length x.1) : Nat) : Int)))) then (let v4 : (List Int) := (List.getD x.1 (Int.toNat x.2.2.1) (((List.replicate 32 (0 : Int)), ((0 : Int), ())), (ByteArray.empty, ((0 : Int), ())))).1.1
  let v5 : Int := (List.getD x.1 (Int.toNat x.2.2.1) (((List.replicate 32 (0 : Int)), ((0 : Int), ())), (ByteArray.empty, ((0 : Int), ())))).1.2.1
  let v6 : ByteArray := (List.getD x.1 (Int.toNat x.2.2.1) (((List.replicate 32 (0 : Int)), ((0 : Int), ())), (ByteArray.empty, ((0 : Int), ())))).2.1
  let v7 : Int := (List.getD x.1 (Int.toNat x.2.2.1) (((List.replicate 32 (0 : Int)), ((0 : Int), ())), (ByteArray.empty, ((0 : Int), ())))).2.2.1
  bif (Nat.ble (((List.length x.2.2.2.2.2.2.1) + (List.length (List.set (List.replicate 1 ((List.replicate 32 (0 : Int)), ((0 : Int), (ByteArray.empty, ((0 : Int), ()))))) 0 (v4, (v5, (v6, (v7, ()))))))) * 64) 140737488355328) then (let v8 : Int := (IntKind.wrap IntKind.i64 (x.2.2.1 + (1 : Int)))
  kn (x.1, (x.2.1, (v8, ((x.2.2.2.1.1, (x.2.2.2.1.2.1, (x.2.2.2.1.2.2.1, (x.2.2.2.1.2.2.2.1, ())))), ((x.2.2.2.2.1.1, ((), ((), (x.2.2.2.2.1.2.2.2.1, ())))), ((x.2.2.2.2.2.1.1, ((), ((), (x.2.2.2.2.2.1.2.2.2.1, ())))), ((x.2.2.2.2.2.2.1 ++ (List.set (List.replicate 1 ((List.replicate 32 (0 : Int)), ((0 : Int), (ByteArray.empty, ((0 : Int), ()))))) 0 (v4, (v5, (v6, (v7, ())))))), ())))))))) else (none)) else (none)) else (ke ((x.2.2.2.1.1, (x.2.2.2.1.2.1, (x.2.2.2.1.2.2.1, (x.2.2.2.1.2.2.2.1, ())))), ((x.2.2.2.2.1.1, ((), ((), (x.2.2.2.2.1.2.2.2.1, ())))), ((x.2.2.2.2.2.1.1, ((), ((), (x.2.2.2.2.2.1.2.2.2.1, ())))), (x.2.2.2.2.2.2.1, ())))))
def bedrocklaw10_given.l0 (k : Nat) : Nat → bedrocklaw10_given.l0.σ → Option bedrocklaw10_given.l0.τ := loopJ (bedrocklaw10_given.l0.r k)
def bedrocklaw10_given.l0.T : StT := ⟨us 1 ++ .ptr 0 [] :: .ptr 1 [] :: .ptr 2 [] :: us 10 ++ .dat (.sl (.pair (.pair (.arr 32 (.int .u8)) (.pair (.int .u32) .unit)) (.pair .str (.pair (.int .u32) .unit)))) :: .dat (.int .i64) :: .dat (.int .i64) :: us 35, [.dat (.pair (.int .u32) (.pair (.sl (.pair (.pair (.arr 32 (.int .u8)) (.pair (.int .u32) .unit)) (.pair .str (.pair (.int .u32) .unit)))) (.pair (.sl (.pair (.int .u64) (.pair .str .unit))) (.pair (.int .u32) .unit)))), .pair (.dat (.int .u32)) (.pair (.nils) (.pair (.nils) (.dat (.pair (.int .u32) .unit)))), .pair (.dat (.int .u32)) (.pair (.vsl 3) (.pair (.nils) (.dat (.pair (.int .u32) .unit)))), .vec (.pair (.arr 32 (.int .u8)) (.pair (.int .u32) (.pair .str (.pair (.int .u32) .unit))))]⟩
def bedrocklaw10_given.l0.os : List Out := [⟨(.exit 0), [.mask [1, 2, 3], .auto 0], ⟨us 1 ++ .ptr 0 [] :: .ptr 1 [] :: .ptr 2 [] :: us 48, [.dat (.pair (.int .u32) (.pair (.sl (.pair (.pair (.arr 32 (.int .u8)) (.pair (.int .u32) .unit)) (.pair .str (.pair (.int .u32) .unit)))) (.pair (.sl (.pair (.int .u64) (.pair .str .unit))) (.pair (.int .u32) .unit)))), .pair (.dat (.int .u32)) (.pair (.nils) (.pair (.nils) (.dat (.pair (.int .u32) .unit)))), .pair (.dat (.int .u32)) (.pair (.vsl 3) (.pair (.nils) (.dat (.pair (.int .u32) .unit)))), .vec (.pair (.arr 32 (.int .u8)) (.pair (.int .u32) (.pair .str (.pair (.int .u32) .unit))))]⟩⟩]
abbrev bedrocklaw10_given.l1.σ : Type := (List (Int × (ByteArray × Unit))) × Int × Int × (Int × (Unit × (Unit × (Int × Unit)))) × (Int × (Unit × (Unit × (Int × Unit)))) × (List ((List Int) × (Int × (ByteArray × (Int × Unit))))) × (List (Int × (ByteArray × Unit))) × Unit
abbrev bedrocklaw10_given.l1.τ : Type := ((Int × (Unit × (Unit × (Int × Unit)))) × (Int × (Unit × (Unit × (Int × Unit)))) × (List ((List Int) × (Int × (ByteArray × (Int × Unit))))) × (List (Int × (ByteArray × Unit))) × Unit)
def bedrocklaw10_given.l1.r (k : Nat) {ρ : Type} (x : bedrocklaw10_given.l1.σ) (kn : bedrocklaw10_given.l1.σ → Option ρ) (ke : bedrocklaw10_given.l1.τ → Option ρ) : Option ρ :=
  bif (decide (x.2.2.1 < x.2.1)) then (bif (decide (((0 : Int) ≤ x.2.2.1) ∧ (x.2.2.1 < (((List.length x.1) : Nat) : Int)))) then (bif (Nat.ble (((List.length x.2.2.2.2.2.2.1) + (List.length (List.set (List.replicate 1 ((0 : Int), (ByteArray.empty, ()))) 0 ((List.getD x.1 (Int.toNat x.2.2.1) ((0 : Int), (ByteArray.empty, ()))).1, ((List.getD x.1 (Int.toNat x.2.2.1) ((0 : Int), (ByteArray.empty, ()))).2.1, ()))))) * 24) 140737488355328) then (let v12 : Int := (IntKind.wrap IntKind.i64 (x.2.2.1 + (1 : Int)))
  kn (x.1, (x.2.1, (v12, ((x.2.2.2.1.1, ((), ((), (x.2.2.2.1.2.2.2.1, ())))), ((x.2.2.2.2.1.1, ((), ((), (x.2.2.2.2.1.2.2.2.1, ())))), (x.2.2.2.2.2.1, ((x.2.2.2.2.2.2.1 ++ (List.set (List.replicate 1 ((0 : Int), (ByteArray.empty, ()))) 0 ((List.getD x.1 (Int.toNat x.2.2.1) ((0 : Int), (ByteArray.empty, ()))).1, ((List.getD x.1 (Int.toNat x.2.2.1) ((0 : Int), (ByteArray.empty, ()))).2.1, ())))), ())))))))) else (none)) else (none)) else (ke ((x.2.2.2.1.1, ((), ((), (x.2.2.2.1.2.2.2.1, ())))), ((x.2.2.2.2.1.1, ((), ((), (x.2.2.2.2.1.2.2.2.1, ())))), (x.2.2.2.2.2.1, (x.2.2.2.2.2.2.1, ())))))
def bedrocklaw10_given.l1 (k : Nat) : Nat → bedrocklaw10_given.l1.σ → Option bedrocklaw10_given.l1.τ := loopJ (bedrocklaw10_given.l1.r k)
def bedrocklaw10_given.l1.T : StT := ⟨us 2 ++ .ptr 0 [] :: .ptr 1 [] :: us 34 ++ .dat (.sl (.pair (.int .u64) (.pair .str .unit))) :: .dat (.int .i64) :: .dat (.int .i64) :: us 11, [.pair (.dat (.int .u32)) (.pair (.nils) (.pair (.nils) (.dat (.pair (.int .u32) .unit)))), .pair (.dat (.int .u32)) (.pair (.vsl 2) (.pair (.vsl 3) (.dat (.pair (.int .u32) .unit)))), .vec (.pair (.arr 32 (.int .u8)) (.pair (.int .u32) (.pair .str (.pair (.int .u32) .unit)))), .vec (.pair (.int .u64) (.pair .str .unit))]⟩
def bedrocklaw10_given.l1.os : List Out := [⟨(.exit 2), [.mask [2, 3], .auto 0], ⟨us 2 ++ .ptr 0 [] :: .ptr 1 [] :: us 48, [.pair (.dat (.int .u32)) (.pair (.nils) (.pair (.nils) (.dat (.pair (.int .u32) .unit)))), .pair (.dat (.int .u32)) (.pair (.vsl 2) (.pair (.vsl 3) (.dat (.pair (.int .u32) .unit)))), .vec (.pair (.arr 32 (.int .u8)) (.pair (.int .u32) (.pair .str (.pair (.int .u32) .unit)))), .vec (.pair (.int .u64) (.pair .str .unit))]⟩⟩]
def bedrocklaw10_given.c (k : Nat) {ρ : Type} (t : (Int × ((List (((List Int) × (Int × Unit)) × (ByteArray × (Int × Unit)))) × ((List (Int × (ByteArray × Unit))) × (Int × Unit))))) (K : (Int × ((List ((List Int) × (Int × (ByteArray × (Int × Unit))))) × ((List (Int × (ByteArray × Unit))) × (Int × Unit)))) × Unit → Option ρ) : Option ρ :=
  let v0 : Int := t.1
  let v1 : Int := t.2.2.2.1
  let v2 : (List (((List Int) × (Int × Unit)) × (ByteArray × (Int × Unit)))) := t.2.1
  let v3 : Int := (((List.length v2) : Nat) : Int)
  (bedrocklaw10_given.l0 k k (v2, (v3, ((0 : Int), ((t.1, (t.2.1, (t.2.2.1, (t.2.2.2.1, ())))), (((0 : Int), ((), ((), ((0 : Int), ())))), ((v0, ((), ((), (v1, ())))), ([], ())))))))).bind fun t9 => let v10 : (List (Int × (ByteArray × Unit))) := t9.1.2.2.1
  let v11 : Int := (((List.length v10) : Nat) : Int)
  (bedrocklaw10_given.l1 k k (v10, (v11, ((0 : Int), ((t9.2.1.1, ((), ((), (t9.2.1.2.2.2.1, ())))), ((t9.2.2.1.1, ((), ((), (t9.2.2.1.2.2.2.1, ())))), (t9.2.2.2.1, ([], ())))))))).bind fun t13 => K ((t13.2.1.1, (t13.2.2.1, (t13.2.2.2.1, (t13.2.1.2.2.2.1, ())))), ())
def bedrocklaw10_given (k : Nat) (t : (Int × ((List (((List Int) × (Int × Unit)) × (ByteArray × (Int × Unit)))) × ((List (Int × (ByteArray × Unit))) × (Int × Unit))))) : Option ((Int × ((List ((List Int) × (Int × (ByteArray × (Int × Unit))))) × ((List (Int × (ByteArray × Unit))) × (Int × Unit)))) × Unit) := bedrocklaw10_given.c k t some
def bedrocklaw10_given.tin : List Ty := [(.pair (.int .u32) (.pair (.sl (.pair (.pair (.arr 32 (.int .u8)) (.pair (.int .u32) .unit)) (.pair .str (.pair (.int .u32) .unit)))) (.pair (.sl (.pair (.int .u64) (.pair .str .unit))) (.pair (.int .u32) .unit))))]
def bedrocklaw10_given.tout : List Ty := [(.pair (.int .u32) (.pair (.sl (.pair (.arr 32 (.int .u8)) (.pair (.int .u32) (.pair .str (.pair (.int .u32) .unit))))) (.pair (.sl (.pair (.int .u64) (.pair .str .unit))) (.pair (.int .u32) .unit))))]
def bedrocklaw10_given.sem (k : Nat) : CallSem := callPure bedrocklaw10_given.tin bedrocklaw10_given.tout fun x => bedrocklaw10_given k x.1
noncomputable def bedrocklaw10_given.ctx (k : Nat) : Ctx := ⟨Try.prog, gam []⟩
theorem bedrocklaw10_given.gok (k : Nat) : ∀ f, SemOK Try.prog f ((bedrocklaw10_given.ctx k).Γ f) := gam_nil
theorem bedrocklaw10_given.l0.round (k : Nat) : RoundIs (bedrocklaw10_given.ctx k) (codeAt (Func.code Try.f23) [1, 1, 0, 1, 0, 0]) (.nil) bedrocklaw10_given.l0.T [.mask [1, 2, 3, 14, 15, 16], .auto 0] bedrocklaw10_given.l0.os (bedrocklaw10_given.l0.r k) := by
  intro ρ x kn ke; kernel_rfl
theorem bedrocklaw10_given.l0.ok (k : Nat) : StOK 0 Try.prog (.loop (codeAt (Func.code Try.f23) [1, 1, 0, 1, 0, 0])) (pieceSem bedrocklaw10_given.l0.T bedrocklaw10_given.l0.os (bedrocklaw10_given.l0 k k)) :=
  loop_ok (C := bedrocklaw10_given.ctx k) (bedrocklaw10_given.gok k) Try.mix AnnOK.nil (by kernel_rfl) (by kernel_rfl) (by kernel_rfl) (bedrocklaw10_given.l0.round k) k
theorem bedrocklaw10_given.l1.round (k : Nat) : RoundIs (bedrocklaw10_given.ctx k) (codeAt (Func.code Try.f23) [1, 1, 1, 0, 1, 0, 0]) (.nil) bedrocklaw10_given.l1.T [.mask [2, 3, 38, 39, 40], .auto 0] bedrocklaw10_given.l1.os (bedrocklaw10_given.l1.r k) := by
  intro ρ x kn ke; kernel_rfl
theorem bedrocklaw10_given.l1.ok (k : Nat) : StOK 0 Try.prog (.loop (codeAt (Func.code Try.f23) [1, 1, 1, 0, 1, 0, 0])) (pieceSem bedrocklaw10_given.l1.T bedrocklaw10_given.l1.os (bedrocklaw10_given.l1 k k)) :=
  loop_ok (C := bedrocklaw10_given.ctx k) (bedrocklaw10_given.gok k) Try.mix AnnOK.nil (by kernel_rfl) (by kernel_rfl) (by kernel_rfl) (bedrocklaw10_given.l1.round k) k
def bedrocklaw10_given.ann (k : Nat) : Ann := .node [] none (.nil) (.node [] none (.nil) (.node [] none (.node [] none (.nil) (.node [] none (.node [.mask [1, 2, 3, 14, 15, 16], .auto 0, .own (.blk 2 [1]) (.pair (.arr 32 (.int .u8)) (.pair (.int .u32) (.pair .str (.pair (.int .u32) .unit))))] (some (pieceSem bedrocklaw10_given.l0.T bedrocklaw10_given.l0.os (bedrocklaw10_given.l0 k k))) .nil .nil) (.nil))) (.node [] none (.node [] none (.nil) (.node [] none (.node [.mask [2, 3, 38, 39, 40], .auto 0, .own (.blk 1 [2]) (.pair (.int .u64) (.pair .str .unit))] (some (pieceSem bedrocklaw10_given.l1.T bedrocklaw10_given.l1.os (bedrocklaw10_given.l1 k k))) .nil .nil) (.nil))) (.nil))))
theorem bedrocklaw10_given.body (k : Nat) : BodyIs (bedrocklaw10_given.ctx k) Try.f23 (Func.code Try.f23) (bedrocklaw10_given.ann k) bedrocklaw10_given.tin bedrocklaw10_given.tout (fun x K => bedrocklaw10_given.c k x.1 K) := by
  intro ρ x K; kernel_rfl
theorem bedrocklaw10_given.sem_ok (k : Nat) : SemOK Try.prog 23 (bedrocklaw10_given.sem k) :=
  callPure_ok (C := bedrocklaw10_given.ctx k) (bedrocklaw10_given.gok k) Try.mix (c := Func.code Try.f23) (ann := bedrocklaw10_given.ann k) (tin := bedrocklaw10_given.tin) (tout := bedrocklaw10_given.tout) (fun x K => bedrocklaw10_given.c k x.1 K) Try.func23 (by kernel_rfl) (by kernel_rfl) (AnnOK.seq AnnOK.nil (AnnOK.seq AnnOK.nil (AnnOK.seq (AnnOK.seq AnnOK.nil (AnnOK.block (AnnOK.loop (by kernel_rfl) (bedrocklaw10_given.l0.ok k)))) (AnnOK.seq (AnnOK.seq AnnOK.nil (AnnOK.block (AnnOK.loop (by kernel_rfl) (bedrocklaw10_given.l1.ok k)))) AnnOK.nil)))) (bedrocklaw10_given.body k)

/-! 22 bedrock/bedrocklaw10.same -/
abbrev bedrocklaw10_same.p0.σ : Type := (Int × ((List ((List Int) × (Int × (ByteArray × (Int × Unit))))) × ((List (Int × (ByteArray × Unit))) × (Int × Unit)))) × (Int × ((List ((List Int) × (Int × (ByteArray × (Int × Unit))))) × ((List (Int × (ByteArray × Unit))) × (Int × Unit)))) × Unit
abbrev bedrocklaw10_same.p0.τ : Type := (Bool × Unit) ⊕ ((Int × ((List ((List Int) × (Int × (ByteArray × (Int × Unit))))) × ((List (Int × (ByteArray × Unit))) × (Int × Unit)))) × (Int × ((List ((List Int) × (Int × (ByteArray × (Int × Unit))))) × ((List (Int × (ByteArray × Unit))) × (Int × Unit)))) × Unit)
def bedrocklaw10_same.p0.r (k : Nat) {ρ : Type} (x : bedrocklaw10_same.p0.σ) (K : bedrocklaw10_same.p0.τ → Option ρ) : Option ρ :=
  let v0 : Int := x.1.1
  let v1 : Int := x.2.1.1
  bif (v0 != v1) then (K (.inl (false, ()))) else (let v2 : Int := x.1.2.2.2.1
  let v3 : Int := x.2.1.2.2.2.1
  bif (v2 != v3) then (K (.inl (false, ()))) else (let v4 : (List ((List Int) × (Int × (ByteArray × (Int × Unit))))) := x.1.2.1
  let v5 : Int := (((List.length v4) : Nat) : Int)
  let v6 : (List ((List Int) × (Int × (ByteArray × (Int × Unit))))) := x.2.1.2.1
  let v7 : Int := (((List.length v6) : Nat) : Int)
  bif (v5 != v7) then (K (.inl (false, ()))) else (let v8 : (List (Int × (ByteArray × Unit))) := x.1.2.2.1
  let v9 : Int := (((List.length v8) : Nat) : Int)
  let v10 : (List (Int × (ByteArray × Unit))) := x.2.1.2.2.1
  let v11 : Int := (((List.length v10) : Nat) : Int)
  bif (v9 != v11) then (K (.inl (false, ()))) else (K (.inr ((x.1.1, (x.1.2.1, (x.1.2.2.1, (x.1.2.2.2.1, ())))), ((x.2.1.1, (x.2.1.2.1, (x.2.1.2.2.1, (x.2.1.2.2.2.1, ())))), ())))))))
def bedrocklaw10_same.p0 (k : Nat) (x : bedrocklaw10_same.p0.σ) : Option bedrocklaw10_same.p0.τ := bedrocklaw10_same.p0.r k x some
def bedrocklaw10_same.p0.T : StT := ⟨us 2 ++ .ptr 0 [] :: .ptr 1 [] :: us 69, [.dat (.pair (.int .u32) (.pair (.sl (.pair (.arr 32 (.int .u8)) (.pair (.int .u32) (.pair .str (.pair (.int .u32) .unit))))) (.pair (.sl (.pair (.int .u64) (.pair .str .unit))) (.pair (.int .u32) .unit)))), .dat (.pair (.int .u32) (.pair (.sl (.pair (.arr 32 (.int .u8)) (.pair (.int .u32) (.pair .str (.pair (.int .u32) .unit))))) (.pair (.sl (.pair (.int .u64) (.pair .str .unit))) (.pair (.int .u32) .unit))))]⟩
def bedrocklaw10_same.p0.os : List Out := [⟨.ret, [.mask [4], .auto 0], ⟨us 4 ++ .dat .bool :: us 68, []⟩⟩, ⟨.normal, [.mask [2, 3], .auto 0], ⟨us 2 ++ .ptr 0 [] :: .ptr 1 [] :: us 69, [.dat (.pair (.int .u32) (.pair (.sl (.pair (.arr 32 (.int .u8)) (.pair (.int .u32) (.pair .str (.pair (.int .u32) .unit))))) (.pair (.sl (.pair (.int .u64) (.pair .str .unit))) (.pair (.int .u32) .unit)))), .dat (.pair (.int .u32) (.pair (.sl (.pair (.arr 32 (.int .u8)) (.pair (.int .u32) (.pair .str (.pair (.int .u32) .unit))))) (.pair (.sl (.pair (.int .u64) (.pair .str .unit))) (.pair (.int .u32) .unit))))]⟩⟩]
abbrev bedrocklaw10_same.l1.σ : Type := Int × Int × (Int × ((List ((List Int) × (Int × (ByteArray × (Int × Unit))))) × ((List (Int × (ByteArray × Unit))) × (Int × Unit)))) × (Int × ((List ((List Int) × (Int × (ByteArray × (Int × Unit))))) × ((List (Int × (ByteArray × Unit))) × (Int × Unit)))) × Unit
abbrev bedrocklaw10_same.l1.τ : Type := (Bool × Unit) ⊕ ((Int × ((List ((List Int) × (Int × (ByteArray × (Int × Unit))))) × ((List (Int × (ByteArray × Unit))) × (Int × Unit)))) × (Int × ((List ((List Int) × (Int × (ByteArray × (Int × Unit))))) × ((List (Int × (ByteArray × Unit))) × (Int × Unit)))) × Unit)
def bedrocklaw10_same.l1.r (k : Nat) {ρ : Type} (x : bedrocklaw10_same.l1.σ) (kn : bedrocklaw10_same.l1.σ → Option ρ) (ke : bedrocklaw10_same.l1.τ → Option ρ) : Option ρ :=
  bif (decide (x.2.1 < x.1)) then (let v17 : (List ((List Int) × (Int × (ByteArray × (Int × Unit))))) := x.2.2.1.2.1
  bif (decide (((0 : Int) ≤ x.2.1) ∧ (x.2.1 < (((List.length v17) : Nat) : Int)))) then (let v18 : (List ((List Int) × (Int × (ByteArray × (Int × Unit))))) := x.2.2.2.1.2.1
  bif (decide (((0 : Int) ≤ x.2.1) ∧ (x.2.1 < (((List.length v18) : Nat) : Int)))) then (bif (!((decide ((List.getD v17 (Int.toNat x.2.1) ((List.replicate 32 (0 : Int)), ((0 : Int), (ByteArray.empty, ((0 : Int), ()))))).1 = (List.getD v18 (Int.toNat x.2.1) ((List.replicate 32 (0 : Int)), ((0 : Int), (ByteArray.empty, ((0 : Int), ()))))).1)) && (((List.getD v17 (Int.toNat x.2.1) ((List.replicate 32 (0 : Int)), ((0 : Int), (ByteArray.empty, ((0 : Int), ()))))).2.1 == (List.getD v18 (Int.toNat x.2.1) ((List.replicate 32 (0 : Int)), ((0 : Int), (ByteArray.empty, ((0 : Int), ()))))).2.1) && ((strEq (List.getD v17 (Int.toNat x.2.1) ((List.replicate 32 (0 : Int)), ((0 : Int), (ByteArray.empty, ((0 : Int), ()))))).2.2.1 (List.getD v18 (Int.toNat x.2.1) ((List.replicate 32 (0 : Int)), ((0 : Int), (ByteArray.empty, ((0 : Int), ()))))).2.2.1) && (((List.getD v17 (Int.toNat x.2.1) ((List.replicate 32 (0 : Int)), ((0 : Int), (ByteArray.empty, ((0 : Int), ()))))).2.2.2.1 == (List.getD v18 (Int.toNat x.2.1) ((List.replicate 32 (0 : Int)), ((0 : Int), (ByteArray.empty, ((0 : Int), ()))))).2.2.2.1) && true))))) then (ke (.inl (false, ()))) else (let v19 : Int := (IntKind.wrap IntKind.i64 (x.2.1 + (1 : Int)))
  kn (x.1, (v19, ((x.2.2.1.1, (x.2.2.1.2.1, (x.2.2.1.2.2.1, (x.2.2.1.2.2.2.1, ())))), ((x.2.2.2.1.1, (x.2.2.2.1.2.1, (x.2.2.2.1.2.2.1, (x.2.2.2.1.2.2.2.1, ())))), ())))))) else (none)) else (none)) else (ke (.inr ((x.2.2.1.1, (x.2.2.1.2.1, (x.2.2.1.2.2.1, (x.2.2.1.2.2.2.1, ())))), ((x.2.2.2.1.1, (x.2.2.2.1.2.1, (x.2.2.2.1.2.2.1, (x.2.2.2.1.2.2.2.1, ())))), ()))))
def bedrocklaw10_same.l1 (k : Nat) : Nat → bedrocklaw10_same.l1.σ → Option bedrocklaw10_same.l1.τ := loopJ (bedrocklaw10_same.l1.r k)
def bedrocklaw10_same.l1.T : StT := ⟨us 2 ++ .ptr 0 [] :: .ptr 1 [] :: us 35 ++ .dat (.int .i64) :: .dat (.int .i64) :: us 32, [.dat (.pair (.int .u32) (.pair (.sl (.pair (.arr 32 (.int .u8)) (.pair (.int .u32) (.pair .str (.pair (.int .u32) .unit))))) (.pair (.sl (.pair (.int .u64) (.pair .str .unit))) (.pair (.int .u32) .unit)))), .dat (.pair (.int .u32) (.pair (.sl (.pair (.arr 32 (.int .u8)) (.pair (.int .u32) (.pair .str (.pair (.int .u32) .unit))))) (.pair (.sl (.pair (.int .u64) (.pair .str .unit))) (.pair (.int .u32) .unit))))]⟩
def bedrocklaw10_same.l1.os : List Out := [⟨.ret, [.mask [4], .auto 0], ⟨us 4 ++ .dat .bool :: us 68, []⟩⟩, ⟨(.exit 0), [.mask [2, 3], .auto 0], ⟨us 2 ++ .ptr 0 [] :: .ptr 1 [] :: us 69, [.dat (.pair (.int .u32) (.pair (.sl (.pair (.arr 32 (.int .u8)) (.pair (.int .u32) (.pair .str (.pair (.int .u32) .unit))))) (.pair (.sl (.pair (.int .u64) (.pair .str .unit))) (.pair (.int .u32) .unit)))), .dat (.pair (.int .u32) (.pair (.sl (.pair (.arr 32 (.int .u8)) (.pair (.int .u32) (.pair .str (.pair (.int .u32) .unit))))) (.pair (.sl (.pair (.int .u64) (.pair .str .unit))) (.pair (.int .u32) .unit))))]⟩⟩]
abbrev bedrocklaw10_same.l2.σ : Type := Int × Int × (Int × ((List ((List Int) × (Int × (ByteArray × (Int × Unit))))) × ((List (Int × (ByteArray × Unit))) × (Int × Unit)))) × (Int × ((List ((List Int) × (Int × (ByteArray × (Int × Unit))))) × ((List (Int × (ByteArray × Unit))) × (Int × Unit)))) × Unit
abbrev bedrocklaw10_same.l2.τ : Type := (Bool × Unit) ⊕ (Unit)
def bedrocklaw10_same.l2.r (k : Nat) {ρ : Type} (x : bedrocklaw10_same.l2.σ) (kn : bedrocklaw10_same.l2.σ → Option ρ) (ke : bedrocklaw10_same.l2.τ → Option ρ) : Option ρ :=
  bif (decide (x.2.1 < x.1)) then (let v25 : (List (Int × (ByteArray × Unit))) := x.2.2.1.2.2.1
  bif (decide (((0 : Int) ≤ x.2.1) ∧ (x.2.1 < (((List.length v25) : Nat) : Int)))) then (let v26 : (List (Int × (ByteArray × Unit))) := x.2.2.2.1.2.2.1
  bif (decide (((0 : Int) ≤ x.2.1) ∧ (x.2.1 < (((List.length v26) : Nat) : Int)))) then (bif (!(((List.getD v25 (Int.toNat x.2.1) ((0 : Int), (ByteArray.empty, ()))).1 == (List.getD v26 (Int.toNat x.2.1) ((0 : Int), (ByteArray.empty, ()))).1) && ((strEq (List.getD v25 (Int.toNat x.2.1) ((0 : Int), (ByteArray.empty, ()))).2.1 (List.getD v26 (Int.toNat x.2.1) ((0 : Int), (ByteArray.empty, ()))).2.1) && true))) then (ke (.inl (false, ()))) else (let v27 : Int := (IntKind.wrap IntKind.i64 (x.2.1 + (1 : Int)))
  kn (x.1, (v27, ((x.2.2.1.1, (x.2.2.1.2.1, (x.2.2.1.2.2.1, (x.2.2.1.2.2.2.1, ())))), ((x.2.2.2.1.1, (x.2.2.2.1.2.1, (x.2.2.2.1.2.2.1, (x.2.2.2.1.2.2.2.1, ())))), ())))))) else (none)) else (none)) else (ke (.inr ()))
def bedrocklaw10_same.l2 (k : Nat) : Nat → bedrocklaw10_same.l2.σ → Option bedrocklaw10_same.l2.τ := loopJ (bedrocklaw10_same.l2.r k)
def bedrocklaw10_same.l2.T : StT := ⟨us 2 ++ .ptr 0 [] :: .ptr 1 [] :: us 53 ++ .dat (.int .i64) :: .dat (.int .i64) :: us 14, [.dat (.pair (.int .u32) (.pair (.sl (.pair (.arr 32 (.int .u8)) (.pair (.int .u32) (.pair .str (.pair (.int .u32) .unit))))) (.pair (.sl (.pair (.int .u64) (.pair .str .unit))) (.pair (.int .u32) .unit)))), .dat (.pair (.int .u32) (.pair (.sl (.pair (.arr 32 (.int .u8)) (.pair (.int .u32) (.pair .str (.pair (.int .u32) .unit))))) (.pair (.sl (.pair (.int .u64) (.pair .str .unit))) (.pair (.int .u32) .unit))))]⟩
def bedrocklaw10_same.l2.os : List Out := [⟨.ret, [.mask [4], .auto 0], ⟨us 4 ++ .dat .bool :: us 68, []⟩⟩, ⟨(.exit 2), [.mask [], .auto 0], ⟨us 73, []⟩⟩]
def bedrocklaw10_same.c (k : Nat) {ρ : Type} (a : (Int × ((List ((List Int) × (Int × (ByteArray × (Int × Unit))))) × ((List (Int × (ByteArray × Unit))) × (Int × Unit))))) (b : (Int × ((List ((List Int) × (Int × (ByteArray × (Int × Unit))))) × ((List (Int × (ByteArray × Unit))) × (Int × Unit))))) (K : Bool × Unit → Option ρ) : Option ρ :=
  (bedrocklaw10_same.p0 k ((a.1, (a.2.1, (a.2.2.1, (a.2.2.2.1, ())))), ((b.1, (b.2.1, (b.2.2.1, (b.2.2.2.1, ())))), ()))).bind fun t12 => (match t12 with | .inl t13 => (K (t13.1, ())) | .inr (t14) => (let v15 : (List ((List Int) × (Int × (ByteArray × (Int × Unit))))) := t14.1.2.1
  let v16 : Int := (((List.length v15) : Nat) : Int)
  (bedrocklaw10_same.l1 k k (v16, ((0 : Int), ((t14.1.1, (t14.1.2.1, (t14.1.2.2.1, (t14.1.2.2.2.1, ())))), ((t14.2.1.1, (t14.2.1.2.1, (t14.2.1.2.2.1, (t14.2.1.2.2.2.1, ())))), ()))))).bind fun t20 => (match t20 with | .inl t21 => (K (t21.1, ())) | .inr (t22) => (let v23 : (List (Int × (ByteArray × Unit))) := t22.1.2.2.1
  let v24 : Int := (((List.length v23) : Nat) : Int)
  (bedrocklaw10_same.l2 k k (v24, ((0 : Int), ((t22.1.1, (t22.1.2.1, (t22.1.2.2.1, (t22.1.2.2.2.1, ())))), ((t22.2.1.1, (t22.2.1.2.1, (t22.2.1.2.2.1, (t22.2.1.2.2.2.1, ())))), ()))))).bind fun t28 => (match t28 with | .inl t29 => (K (t29.1, ())) | .inr (t30) => (K (true, ())))))))
def bedrocklaw10_same (k : Nat) (a : (Int × ((List ((List Int) × (Int × (ByteArray × (Int × Unit))))) × ((List (Int × (ByteArray × Unit))) × (Int × Unit))))) (b : (Int × ((List ((List Int) × (Int × (ByteArray × (Int × Unit))))) × ((List (Int × (ByteArray × Unit))) × (Int × Unit))))) : Option (Bool × Unit) := bedrocklaw10_same.c k a b some
def bedrocklaw10_same.tin : List Ty := [(.pair (.int .u32) (.pair (.sl (.pair (.arr 32 (.int .u8)) (.pair (.int .u32) (.pair .str (.pair (.int .u32) .unit))))) (.pair (.sl (.pair (.int .u64) (.pair .str .unit))) (.pair (.int .u32) .unit)))), (.pair (.int .u32) (.pair (.sl (.pair (.arr 32 (.int .u8)) (.pair (.int .u32) (.pair .str (.pair (.int .u32) .unit))))) (.pair (.sl (.pair (.int .u64) (.pair .str .unit))) (.pair (.int .u32) .unit))))]
def bedrocklaw10_same.tout : List Ty := [.bool]
def bedrocklaw10_same.sem (k : Nat) : CallSem := callPure bedrocklaw10_same.tin bedrocklaw10_same.tout fun x => bedrocklaw10_same k x.1 x.2.1
noncomputable def bedrocklaw10_same.ctx (k : Nat) : Ctx := ⟨Try.prog, gam []⟩
theorem bedrocklaw10_same.gok (k : Nat) : ∀ f, SemOK Try.prog f ((bedrocklaw10_same.ctx k).Γ f) := gam_nil
theorem bedrocklaw10_same.p0.is (k : Nat) : PieceIs (bedrocklaw10_same.ctx k) (codeAt (Func.code Try.f22) [1, 0]) (.nil) bedrocklaw10_same.p0.T bedrocklaw10_same.p0.os (bedrocklaw10_same.p0.r k) := by
  intro ρ x K; kernel_rfl
theorem bedrocklaw10_same.p0.ok (k : Nat) : StOK 0 Try.prog (codeAt (Func.code Try.f22) [1, 0]) (pieceSem bedrocklaw10_same.p0.T bedrocklaw10_same.p0.os (bedrocklaw10_same.p0 k)) :=
  piece_ok (C := bedrocklaw10_same.ctx k) (T := bedrocklaw10_same.p0.T) (os := bedrocklaw10_same.p0.os) (bedrocklaw10_same.gok k) Try.mix (fun x K => bedrocklaw10_same.p0.r k x K) AnnOK.nil (by kernel_rfl) (by kernel_rfl) (bedrocklaw10_same.p0.is k)
theorem bedrocklaw10_same.l1.round (k : Nat) : RoundIs (bedrocklaw10_same.ctx k) (codeAt (Func.code Try.f22) [1, 1, 0, 1, 0, 0]) (.nil) bedrocklaw10_same.l1.T [.mask [2, 3, 39, 40], .auto 0] bedrocklaw10_same.l1.os (bedrocklaw10_same.l1.r k) := by
  intro ρ x kn ke; kernel_rfl
theorem bedrocklaw10_same.l1.ok (k : Nat) : StOK 0 Try.prog (.loop (codeAt (Func.code Try.f22) [1, 1, 0, 1, 0, 0])) (pieceSem bedrocklaw10_same.l1.T bedrocklaw10_same.l1.os (bedrocklaw10_same.l1 k k)) :=
  loop_ok (C := bedrocklaw10_same.ctx k) (bedrocklaw10_same.gok k) Try.mix AnnOK.nil (by kernel_rfl) (by kernel_rfl) (by kernel_rfl) (bedrocklaw10_same.l1.round k) k
theorem bedrocklaw10_same.l2.round (k : Nat) : RoundIs (bedrocklaw10_same.ctx k) (codeAt (Func.code Try.f22) [1, 1, 1, 0, 1, 0, 0]) (.nil) bedrocklaw10_same.l2.T [.mask [2, 3, 57, 58], .auto 0] bedrocklaw10_same.l2.os (bedrocklaw10_same.l2.r k) := by
  intro ρ x kn ke; kernel_rfl
theorem bedrocklaw10_same.l2.ok (k : Nat) : StOK 0 Try.prog (.loop (codeAt (Func.code Try.f22) [1, 1, 1, 0, 1, 0, 0])) (pieceSem bedrocklaw10_same.l2.T bedrocklaw10_same.l2.os (bedrocklaw10_same.l2 k k)) :=
  loop_ok (C := bedrocklaw10_same.ctx k) (bedrocklaw10_same.gok k) Try.mix AnnOK.nil (by kernel_rfl) (by kernel_rfl) (by kernel_rfl) (bedrocklaw10_same.l2.round k) k
def bedrocklaw10_same.ann (k : Nat) : Ann := .node [] none (.nil) (.node [] none (.node [.mask [2, 3], .auto 0] (some (pieceSem bedrocklaw10_same.p0.T bedrocklaw10_same.p0.os (bedrocklaw10_same.p0 k))) .nil .nil) (.node [] none (.node [] none (.nil) (.node [] none (.node [.mask [2, 3, 39, 40], .auto 0] (some (pieceSem bedrocklaw10_same.l1.T bedrocklaw10_same.l1.os (bedrocklaw10_same.l1 k k))) .nil .nil) (.nil))) (.node [] none (.node [] none (.nil) (.node [] none (.node [.mask [2, 3, 57, 58], .auto 0] (some (pieceSem bedrocklaw10_same.l2.T bedrocklaw10_same.l2.os (bedrocklaw10_same.l2 k k))) .nil .nil) (.nil))) (.nil))))
theorem bedrocklaw10_same.body (k : Nat) : BodyIs (bedrocklaw10_same.ctx k) Try.f22 (Func.code Try.f22) (bedrocklaw10_same.ann k) bedrocklaw10_same.tin bedrocklaw10_same.tout (fun x K => bedrocklaw10_same.c k x.1 x.2.1 K) := by
  intro ρ x K; kernel_rfl
theorem bedrocklaw10_same.sem_ok (k : Nat) : SemOK Try.prog 22 (bedrocklaw10_same.sem k) :=
  callPure_ok (C := bedrocklaw10_same.ctx k) (bedrocklaw10_same.gok k) Try.mix (c := Func.code Try.f22) (ann := bedrocklaw10_same.ann k) (tin := bedrocklaw10_same.tin) (tout := bedrocklaw10_same.tout) (fun x K => bedrocklaw10_same.c k x.1 x.2.1 K) Try.func22 (by kernel_rfl) (by kernel_rfl) (AnnOK.seq AnnOK.nil (AnnOK.seq (AnnOK.loop (by kernel_rfl) (bedrocklaw10_same.p0.ok k)) (AnnOK.seq (AnnOK.seq AnnOK.nil (AnnOK.block (AnnOK.loop (by kernel_rfl) (bedrocklaw10_same.l1.ok k)))) (AnnOK.seq (AnnOK.seq AnnOK.nil (AnnOK.block (AnnOK.loop (by kernel_rfl) (bedrocklaw10_same.l2.ok k)))) AnnOK.nil)))) (bedrocklaw10_same.body k)

/-! 4 bedrock/bedrocklaw10.TxReads -/
abbrev bedrocklaw10_TxReads.p0.σ : Type := ByteArray × Int × Int × Int × Int × (Int × ((List (((List Int) × (Int × Unit)) × (ByteArray × (Int × Unit)))) × ((List (Int × (ByteArray × Unit))) × (Int × Unit)))) × (Int × ((List ((List Int) × (Int × (ByteArray × (Int × Unit))))) × ((List (Int × (ByteArray × Unit))) × (Int × Unit)))) × Unit
abbrev bedrocklaw10_TxReads.p0.τ : Type := (Bool × Unit) ⊕ (ByteArray × (Int × ((List (((List Int) × (Int × Unit)) × (ByteArray × (Int × Unit)))) × ((List (Int × (ByteArray × Unit))) × (Int × Unit)))) × (Int × ((List ((List Int) × (Int × (ByteArray × (Int × Unit))))) × ((List (Int × (ByteArray × Unit))) × (Int × Unit)))) × Unit)
def bedrocklaw10_TxReads.p0.r (k : Nat) {ρ : Type} (x : bedrocklaw10_TxReads.p0.σ) (K : bedrocklaw10_TxReads.p0.τ → Option ρ) : Option ρ :=
  (bedrocklaw10_awake k ).bind fun t6 => bif (!t6.1) then (K (.inl (false, ()))) else ((bedrocklaw10_given k (x.2.2.2.2.2.1.1, (x.2.2.2.2.2.1.2.1, (x.2.2.2.2.2.1.2.2.1, (x.2.2.2.2.2.1.2.2.2.1, ()))))).bind fun t7 => (bedrocklaw10_same k (t7.1.1, (t7.1.2.1, (t7.1.2.2.1, (t7.1.2.2.2.1, ())))) (x.2.2.2.2.2.2.1.1, (x.2.2.2.2.2.2.1.2.1, (x.2.2.2.2.2.2.1.2.2.1, (x.2.2.2.2.2.2.1.2.2.2.1, ()))))).bind fun t8 => bif (!t8.1) then (K (.inl (false, ()))) else (bif (x.2.1 != x.2.2.2.1) then (K (.inl (false, ()))) else (bif (x.2.2.1 != x.2.2.2.2.1) then (K (.inl (false, ()))) else (K (.inr (x.1, ((x.2.2.2.2.2.1.1, (x.2.2.2.2.2.1.2.1, (x.2.2.2.2.2.1.2.2.1, (x.2.2.2.2.2.1.2.2.2.1, ())))), ((x.2.2.2.2.2.2.1.1, (x.2.2.2.2.2.2.1.2.1, (x.2.2.2.2.2.2.1.2.2.1, (x.2.2.2.2.2.2.1.2.2.2.1, ())))), ()))))))))
def bedrocklaw10_TxReads.p0 (k : Nat) (x : bedrocklaw10_TxReads.p0.σ) : Option bedrocklaw10_TxReads.p0.τ := bedrocklaw10_TxReads.p0.r k x some
def bedrocklaw10_TxReads.p0.T : StT := ⟨.dat .str :: us 4 ++ .ptr 0 [] :: .dat (.int .i64) :: .dat (.int .i64) :: .ptr 1 [] :: .dat (.int .i64) :: .dat (.int .i64) :: us 62, [.dat (.pair (.int .u32) (.pair (.sl (.pair (.pair (.arr 32 (.int .u8)) (.pair (.int .u32) .unit)) (.pair .str (.pair (.int .u32) .unit)))) (.pair (.sl (.pair (.int .u64) (.pair .str .unit))) (.pair (.int .u32) .unit)))), .dat (.pair (.int .u32) (.pair (.sl (.pair (.arr 32 (.int .u8)) (.pair (.int .u32) (.pair .str (.pair (.int .u32) .unit))))) (.pair (.sl (.pair (.int .u64) (.pair .str .unit))) (.pair (.int .u32) .unit))))]⟩
def bedrocklaw10_TxReads.p0.os : List Out := [⟨.ret, [.mask [4], .auto 0], ⟨us 4 ++ .dat .bool :: us 68, []⟩⟩, ⟨.normal, [.mask [0, 5, 8], .auto 0], ⟨.dat .str :: us 4 ++ .ptr 0 [] :: us 2 ++ .ptr 1 [] :: us 64, [.dat (.pair (.int .u32) (.pair (.sl (.pair (.pair (.arr 32 (.int .u8)) (.pair (.int .u32) .unit)) (.pair .str (.pair (.int .u32) .unit)))) (.pair (.sl (.pair (.int .u64) (.pair .str .unit))) (.pair (.int .u32) .unit)))), .dat (.pair (.int .u32) (.pair (.sl (.pair (.arr 32 (.int .u8)) (.pair (.int .u32) (.pair .str (.pair (.int .u32) .unit))))) (.pair (.sl (.pair (.int .u64) (.pair .str .unit))) (.pair (.int .u32) .unit))))]⟩⟩]
def bedrocklaw10_TxReads.c (k : Nat) {ρ : Type} (s : ByteArray) (at_1 : Int) (K : Bool × Unit → Option ρ) : Option ρ :=
  (tx_Take k s at_1).bind fun t0 => let v1 : Int := t0.2.1
  let v2 : Int := t0.2.2.1
  (bedrockref10_Take k s at_1).bind fun t3 => let v4 : Int := t3.2.1
  let v5 : Int := t3.2.2.1
  (bedrocklaw10_TxReads.p0 k (s, (v1, (v2, (v4, (v5, ((t0.1.1, (t0.1.2.1, (t0.1.2.2.1, (t0.1.2.2.2.1, ())))), ((t3.1.1, (t3.1.2.1, (t3.1.2.2.1, (t3.1.2.2.2.1, ())))), ())))))))).bind fun t9 => (match t9 with | .inl t10 => (K (t10.1, ())) | .inr (t11) => ((tx_Decode k t11.1).bind fun t12 => let v13 : Int := t12.2.1
  (bedrockref10_Take k t11.1 (0 : Int)).bind fun t14 => let v15 : Int := t14.2.1
  let v16 : Int := t14.2.2.1
  bif (v16 == (0 : Int)) then (let v17 : Int := (((ByteArray.size t11.1) : Nat) : Int)
  bif (decide (v15 < v17)) then ((bedrocklaw10_given k (t12.1.1, (t12.1.2.1, (t12.1.2.2.1, (t12.1.2.2.2.1, ()))))).bind fun t18 => (bedrocklaw10_same k (t18.1.1, (t18.1.2.1, (t18.1.2.2.1, (t18.1.2.2.2.1, ())))) ((0 : Int), ([], ([], ((0 : Int), ()))))).bind fun t19 => bif t19.1 then (K ((v13 == (5 : Int)), ())) else (K (false, ()))) else ((bedrocklaw10_given k (t12.1.1, (t12.1.2.1, (t12.1.2.2.1, (t12.1.2.2.2.1, ()))))).bind fun t20 => (bedrocklaw10_same k (t20.1.1, (t20.1.2.1, (t20.1.2.2.1, (t20.1.2.2.2.1, ())))) (t14.1.1, (t14.1.2.1, (t14.1.2.2.1, (t14.1.2.2.2.1, ()))))).bind fun t21 => bif t21.1 then (K ((v13 == v16), ())) else (K (false, ())))) else ((bedrocklaw10_given k (t12.1.1, (t12.1.2.1, (t12.1.2.2.1, (t12.1.2.2.2.1, ()))))).bind fun t22 => (bedrocklaw10_same k (t22.1.1, (t22.1.2.1, (t22.1.2.2.1, (t22.1.2.2.2.1, ())))) (t14.1.1, (t14.1.2.1, (t14.1.2.2.1, (t14.1.2.2.2.1, ()))))).bind fun t23 => bif t23.1 then (K ((v13 == v16), ())) else (K (false, ())))))
def bedrocklaw10_TxReads (k : Nat) (s : ByteArray) (at_1 : Int) : Option (Bool × Unit) := bedrocklaw10_TxReads.c k s at_1 some
def bedrocklaw10_TxReads.tin : List Ty := [.str, (.int .i64)]
def bedrocklaw10_TxReads.tout : List Ty := [.bool]
def bedrocklaw10_TxReads.sem (k : Nat) : CallSem := callPure bedrocklaw10_TxReads.tin bedrocklaw10_TxReads.tout fun x => bedrocklaw10_TxReads k x.1 x.2.1
noncomputable def bedrocklaw10_TxReads.ctx (k : Nat) : Ctx := ⟨Try.prog, gam [(19, (tx_Take.sem k)), (20, (bedrockref10_Take.sem k)), (21, (bedrocklaw10_awake.sem k)), (23, (bedrocklaw10_given.sem k)), (22, (bedrocklaw10_same.sem k)), (24, (tx_Decode.sem k))]⟩
theorem bedrocklaw10_TxReads.gok (k : Nat) : ∀ f, SemOK Try.prog f ((bedrocklaw10_TxReads.ctx k).Γ f) := (gam_cons (tx_Take.sem_ok k) (gam_cons (bedrockref10_Take.sem_ok k) (gam_cons (bedrocklaw10_awake.sem_ok k) (gam_cons (bedrocklaw10_given.sem_ok k) (gam_cons (bedrocklaw10_same.sem_ok k) (gam_cons (tx_Decode.sem_ok k) gam_nil))))))
theorem bedrocklaw10_TxReads.p0.is (k : Nat) : PieceIs (bedrocklaw10_TxReads.ctx k) (codeAt (Func.code Try.f4) [1, 1, 1, 0]) (.nil) bedrocklaw10_TxReads.p0.T bedrocklaw10_TxReads.p0.os (bedrocklaw10_TxReads.p0.r k) := by
  intro ρ x K; kernel_rfl
theorem bedrocklaw10_TxReads.p0.ok (k : Nat) : StOK 0 Try.prog (codeAt (Func.code Try.f4) [1, 1, 1, 0]) (pieceSem bedrocklaw10_TxReads.p0.T bedrocklaw10_TxReads.p0.os (bedrocklaw10_TxReads.p0 k)) :=
  piece_ok (C := bedrocklaw10_TxReads.ctx k) (T := bedrocklaw10_TxReads.p0.T) (os := bedrocklaw10_TxReads.p0.os) (bedrocklaw10_TxReads.gok k) Try.mix (fun x K => bedrocklaw10_TxReads.p0.r k x K) AnnOK.nil (by kernel_rfl) (by kernel_rfl) (bedrocklaw10_TxReads.p0.is k)
def bedrocklaw10_TxReads.ann (k : Nat) : Ann := .node [] none (.nil) (.node [] none (.nil) (.node [] none (.nil) (.node [] none (.node [.mask [0, 5, 6, 7, 8, 9, 10], .auto 0] (some (pieceSem bedrocklaw10_TxReads.p0.T bedrocklaw10_TxReads.p0.os (bedrocklaw10_TxReads.p0 k))) .nil .nil) (.nil))))
theorem bedrocklaw10_TxReads.body (k : Nat) : BodyIs (bedrocklaw10_TxReads.ctx k) Try.f4 (Func.code Try.f4) (bedrocklaw10_TxReads.ann k) bedrocklaw10_TxReads.tin bedrocklaw10_TxReads.tout (fun x K => bedrocklaw10_TxReads.c k x.1 x.2.1 K) := by
  intro ρ x K; kernel_rfl
theorem bedrocklaw10_TxReads.sem_ok (k : Nat) : SemOK Try.prog 4 (bedrocklaw10_TxReads.sem k) :=
  callPure_ok (C := bedrocklaw10_TxReads.ctx k) (bedrocklaw10_TxReads.gok k) Try.mix (c := Func.code Try.f4) (ann := bedrocklaw10_TxReads.ann k) (tin := bedrocklaw10_TxReads.tin) (tout := bedrocklaw10_TxReads.tout) (fun x K => bedrocklaw10_TxReads.c k x.1 x.2.1 K) Try.func4 (by kernel_rfl) (by kernel_rfl) (AnnOK.seq AnnOK.nil (AnnOK.seq AnnOK.nil (AnnOK.seq AnnOK.nil (AnnOK.seq (AnnOK.loop (by kernel_rfl) (bedrocklaw10_TxReads.p0.ok k)) AnnOK.nil)))) (bedrocklaw10_TxReads.body k)

end Go.Am
