/- A part of a proof: a machine of abstract values that tells what functions of the program compute, and the plain facts on them. -/
import Derived.Test.YtegkgkighkpkiaaAm9
set_option linter.unusedVariables false
set_option linter.unusedSimpArgs false
set_option linter.unnecessarySimpa false
set_option linter.unusedSectionVars false
/- ShaKeys: the law. -/
namespace Go.Am
open Go

/-- A key of 64 bytes. -/
def keyL (a : List Int) : List Int := a ++ List.replicate (64 - a.length) 0
theorem keyL_length {a : List Int} (h : a.length ≤ 64) : (keyL a).length = 64 := by
  unfold keyL; rw [List.length_append, List.length_replicate]; omega
theorem bytesIn_append' {a b : List Int} (ha : bytesIn a) (hb : bytesIn b) : bytesIn (a ++ b) := fun x hx => (List.mem_append.1 hx).elim (ha x) (hb x)
theorem keyL_in {a : List Int} (h : bytesIn a) : bytesIn (keyL a) := bytesIn_append' h fun x hx => by have := List.eq_of_mem_replicate hx; omega
def xor8 (b x : Int) : Int := bitsOp .xor .u8 x b
theorem xor8_range (b x : Int) : 0 ≤ xor8 b x ∧ xor8 b x < 256 := by
  unfold xor8; simp only [bitsOp]; rw [u8_mod]; omega
def mapX (b : Int) (l : List Int) : List Int := l.map (xor8 b)
theorem mapX_in (b : Int) (l : List Int) : bytesIn (mapX b l) := by
  intro x hx
  obtain ⟨y, _, rfl⟩ := List.mem_map.1 hx
  exact xor8_range b y

theorem key1_eq {k : Nat} (hk : 64 < k) (b : Int) {l : List Int} (hl : bytesIn l) (h64 : l.length = 64) : sha_Key_1 k b (bytesOf l) = some (bytesOf (mapX b l), bytesOf l, ()) := by
  unfold sha_Key_1 sha_Key_1.c
  rw [ofBytes_bytesOf hl, h64]
  dsimp only
  have hloop : sha_Key_1.l0 k k (b, ((64 : Nat) : Int), (0 : Int), bytesOf l, l, ()) = some (bytesOf l, mapX b l, ()) := by
    have := loop_from0 (r := sha_Key_1.l0.r k) (fun i => (b, ((64 : Nat) : Int), (i : Int), bytesOf l, (List.range i).map (fun j => xor8 b (l.getD j 0)) ++ l.drop i, ())) 64 (bytesOf l, mapX b l, ()) ?_ ?_ hk
    · exact this
    · intro i hi kn ke
      simp only [sha_Key_1.l0.r]
      have hlen : ((List.range i).map (fun j => xor8 b (l.getD j 0)) ++ l.drop i).length = 64 := by
        rw [List.length_append, List.length_map, List.length_range, List.length_drop]; omega
      rw [bif_yes (by omega), bif_yes (by omega), bif_yes (by omega), i64_in (by omega), show (i : Int).toNat = i by omega, get_map]
      rw [show bitsOp .xor .u8 (l.getD i 0) b = (fun j => xor8 b (l.getD j 0)) i from rfl, set_map (by omega)]
      rfl
    · intro kn ke
      simp only [sha_Key_1.l0.r]
      rw [bif_no (by omega), map_full (by omega)]
      have : (List.range 64).map (fun j => xor8 b (l.getD j 0)) = mapX b l := by
        apply List.ext_getElem
        · simp [mapX, h64]
        · intro j h1 h2
          simp only [List.length_map, List.length_range] at h1
          simp only [mapX, List.getElem_map, List.getElem_range, List.getD_eq_getElem?_getD]
          rw [List.getElem?_eq_getElem (by omega)]
          rfl
      rw [this]
  rw [hloop]
  rfl

theorem repeat0' (n : Nat) : repB ⟨List.toArray [0]⟩ (n : Int) = bytesOf (List.replicate n 0) := by
  unfold repB bytesOf
  congr 1
  have : ∀ m, Lib.repeatL [(0 : UInt8)] m = List.replicate m 0 := by
    intro m
    induction m with
    | zero => rfl
    | succ m ih => simp [Lib.repeatL, ih, List.replicate_succ]
  rw [show (n : Int).toNat = n by omega]
  show (Lib.repeatL [(0 : UInt8)] n).toArray = _
  rw [this]
  simp

/-- A key, summed if it is long. -/
def shortKey (key : ByteArray) : List Int := if key.size > 64 then sumL (ofBytes key) else ofBytes key
theorem bytesIn_of {a : List Int} (h : allIn 0 255 a) : bytesIn a := fun x hx => by have := h x hx; omega
theorem shortKey_length (key : ByteArray) : (shortKey key).length ≤ 64 := by
  unfold shortKey
  split
  · have := bytesBE_length (hx (ofBytes key ++ padL ((ofBytes key).length : Int))); unfold sumL; omega
  · rw [ofBytes_length]; omega
theorem shortKey_in (key : ByteArray) : bytesIn (shortKey key) := by
  unfold shortKey
  split
  · exact bytesIn_of (bytesBE_in _)
  · exact bytesIn_of (ofBytes_in key)
/-- The sum by a key. -/
def keyS (key s : ByteArray) : List Int := sumL (mapX 92 (keyL (shortKey key)) ++ sumL (mapX 54 (keyL (shortKey key)) ++ ofBytes s))

theorem mapX_length (b : Int) (l : List Int) : (mapX b l).length = l.length := by simp [mapX]

theorem sha_Key_eq {k : Nat} (hk : 128 < k) {key s : ByteArray} (h1 : key.size ≤ 140737488351232) (h2 : s.size ≤ 140737488351232) (hf : key.size / 64 + s.size / 64 + 10 < k) : sha_Key k key s = some (keyS key s, ()) := by
  unfold sha_Key sha_Key.c
  have hp : sha_Key.p0 k (s, key, List.replicate 32 0, ()) = some (s, bytesOf (shortKey key), List.replicate 32 0, ()) := by
    unfold sha_Key.p0 shortKey
    simp only [sha_Key.p0.r]
    by_cases h : key.size > 64
    · rw [bif_yes (by omega), if_pos h, sha_Sum_eq hk (by omega) (by omega)]
      simp only [Option.bind_some]
      rw [List.drop_zero, List.take_of_length_le (by have := bytesBE_length (hx (ofBytes key ++ padL ((ofBytes key).length : Int))); unfold sumL; omega)]
    · rw [bif_no (by omega), if_neg h, bytesOf_ofBytes]
  rw [hp]
  simp only [Option.bind_some]
  have hl := shortKey_length key
  have hin := shortKey_in key
  have hK := keyL_length hl
  have hKin := keyL_in hin
  rw [bytesOf_size, i64_in (by omega), show (64 : Int) - ((shortKey key).length : Int) = ((64 - (shortKey key).length : Nat) : Int) by omega]
  have hrep : strings_Repeat k (⟨(List.toArray [0])⟩ : ByteArray) ((64 - (shortKey key).length : Nat) : Int) = some (bytesOf (List.replicate (64 - (shortKey key).length) 0), ()) := by
    unfold strings_Repeat repJ
    rw [repeat0']
    have : (⟨(List.toArray [0])⟩ : ByteArray).size = 1 := rfl
    rw [this, cond_true']
    simp only [Bool.and_eq_true, decide_eq_true_eq, Nat.ble_eq]
    omega
  rw [hrep]
  simp only [Option.bind_some]
  rw [cond_true' (ble_of (by rw [bytesOf_size, List.length_replicate]; omega)), bytesOf_append, show shortKey key ++ List.replicate (64 - (shortKey key).length) 0 = keyL (shortKey key) from rfl, key1_eq (by omega) 54 hKin hK]
  simp only [Option.bind_some]
  have hx54 : (bytesOf (mapX 54 (keyL (shortKey key)))).size = 64 := by rw [bytesOf_size, mapX_length, hK]
  have hsz : (bytesOf (mapX 54 (keyL (shortKey key))) ++ s).size = 64 + s.size := by rw [ByteArray.size_append, hx54]
  rw [cond_true' (ble_of (by omega)), sha_Sum_eq hk (by omega) (by omega), ofBytes_append, ofBytes_bytesOf (mapX_in _ _)]
  simp only [Option.bind_some]
  rw [key1_eq (by omega) 92 hKin hK]
  simp only [Option.bind_some]
  have h32 : (sumL (mapX 54 (keyL (shortKey key)) ++ ofBytes s)).length = 32 := bytesBE_length _
  have h32b : (bytesOf (sumL (mapX 54 (keyL (shortKey key)) ++ ofBytes s))).size = 32 := by rw [bytesOf_size, h32]
  have hsin : bytesIn (sumL (mapX 54 (keyL (shortKey key)) ++ ofBytes s)) := bytesIn_of (bytesBE_in _)
  have hx92 : (bytesOf (mapX 92 (keyL (shortKey key)))).size = 64 := by rw [bytesOf_size, mapX_length, hK]
  rw [List.drop_zero, List.take_of_length_le (by omega), cond_true' (ble_of (by omega))]
  have hsz2 : (bytesOf (mapX 92 (keyL (shortKey key))) ++ bytesOf (sumL (mapX 54 (keyL (shortKey key)) ++ ofBytes s))).size = 96 := by rw [ByteArray.size_append, hx92, bytesOf_size, h32]
  rw [sha_Sum_eq hk (by omega) (by omega), ofBytes_append, ofBytes_bytesOf (mapX_in _ _), ofBytes_bytesOf hsin]
  rfl

theorem ref_Key_eq {k : Nat} (hk : 128 < k) {key s : ByteArray} (h1 : key.size ≤ 140737488351232) (h2 : s.size ≤ 140737488351232) (hf : key.size / 64 + s.size / 64 + 10 < k) : bedrockref02_Key k key s = some (keyS key s, ()) := by
  unfold bedrockref02_Key bedrockref02_Key.c
  have hp : bedrockref02_Key.p0 k (key, s, List.replicate 32 0, ()) = some (bytesOf (shortKey key), s, List.replicate 32 0, ()) := by
    unfold bedrockref02_Key.p0 shortKey
    simp only [bedrockref02_Key.p0.r]
    by_cases h : key.size > 64
    · rw [bif_yes (by omega), if_pos h, ref_Sum_eq hk (by omega) (by omega)]
      simp only [Option.bind_some]
      rw [List.drop_zero, List.take_of_length_le (by have := bytesBE_length (hx (ofBytes key ++ padL ((ofBytes key).length : Int))); unfold sumL; omega)]
    · rw [bif_no (by omega), if_neg h, bytesOf_ofBytes]
  rw [hp]
  simp only [Option.bind_some]
  have hl := shortKey_length key
  have hin := shortKey_in key
  have hK := keyL_length hl
  generalize hsk : shortKey key = a at *
  have hloop : bedrockref02_Key.l1 k k (bytesOf a, s, (0 : Int), List.replicate 32 0, List.replicate 0 (0 : Int), List.replicate 0 (0 : Int), ()) = some (s, List.replicate 32 0, mapX 54 (keyL a), mapX 92 (keyL a), ()) := by
    have := loop_from0 (r := bedrockref02_Key.l1.r k) (fun i => (bytesOf a, s, (i : Int), List.replicate 32 0, (mapX 54 (keyL a)).take i, (mapX 92 (keyL a)).take i, ())) 64 (s, List.replicate 32 0, mapX 54 (keyL a), mapX 92 (keyL a), ()) ?_ ?_ (fuel := k) (by omega)
    · rw [List.take_zero, List.take_zero] at this
      exact this
    · intro i hi kn ke
      simp only [bedrockref02_Key.l1.r]
      have hp2 : bedrockref02_Key.p2 k (bytesOf a, s, (i : Int), (0 : Int), List.replicate 32 0, (mapX 54 (keyL a)).take i, (mapX 92 (keyL a)).take i, ()) =
          some (bytesOf a, s, (i : Int), (keyL a).getD i 0, List.replicate 32 0, (mapX 54 (keyL a)).take i, (mapX 92 (keyL a)).take i, ()) := by
        unfold bedrockref02_Key.p2 keyL
        simp only [bedrockref02_Key.p2.r]
        rw [bytesOf_size, List.getD_eq_getElem?_getD, List.getElem?_append]
        by_cases h : i < a.length
        · rw [bif_yes (by omega), bif_yes (by omega), if_pos h, byteAt_eq, ofBytes_bytesOf hin, show (i : Int).toNat = i by omega, List.getD_eq_getElem?_getD]
        · rw [bif_no (by omega), if_neg h, List.getElem?_replicate, if_pos (by omega)]
          rfl
      rw [bif_yes (by omega), hp2]
      simp only [Option.bind_some]
      have hl5 : ((mapX 54 (keyL a)).take i).length = i := by rw [List.length_take, mapX_length]; omega
      have hl9 : ((mapX 92 (keyL a)).take i).length = i := by rw [List.length_take, mapX_length]; omega
      have snoc : ∀ b, (mapX b (keyL a)).take i ++ List.set (List.replicate 1 (0 : Int)) 0 (bitsOp .xor .u8 ((keyL a).getD i 0) b) = (mapX b (keyL a)).take (i + 1) := by
        intro b
        have hg : i < (keyL a).length := by omega
        rw [show List.set (List.replicate 1 (0 : Int)) 0 (bitsOp .xor .u8 ((keyL a).getD i 0) b) = [xor8 b ((keyL a).getD i 0)] from rfl]
        unfold mapX
        rw [List.take_add_one, List.getElem?_map, List.getElem?_eq_getElem hg, List.getD_eq_getElem?_getD, List.getElem?_eq_getElem hg]
        rfl
      have hone : (List.set (List.replicate 1 (0 : Int)) 0 (bitsOp .xor .u8 ((keyL a).getD i 0) 54)).length = 1 := rfl
      have hone2 : (List.set (List.replicate 1 (0 : Int)) 0 (bitsOp .xor .u8 ((keyL a).getD i 0) 92)).length = 1 := rfl
      rw [cond_true' (ble_of (by omega)), cond_true' (ble_of (by omega)), snoc, snoc, i64_in (by omega)]
      rfl
    · intro kn ke
      simp only [bedrockref02_Key.l1.r]
      rw [bif_no (by omega), List.take_of_length_le (by rw [mapX_length]; omega), List.take_of_length_le (by rw [mapX_length]; omega)]
  rw [hloop]
  simp only [Option.bind_some]
  have hx54 : (bytesOf (mapX 54 (keyL a))).size = 64 := by rw [bytesOf_size, mapX_length, hK]
  have hsz : (bytesOf (mapX 54 (keyL a)) ++ s).size = 64 + s.size := by rw [ByteArray.size_append, hx54]
  rw [cond_true' (ble_of (by omega)), ref_Sum_eq hk (by omega) (by omega), ofBytes_append, ofBytes_bytesOf (mapX_in _ _)]
  simp only [Option.bind_some]
  have h32 : (sumL (mapX 54 (keyL a) ++ ofBytes s)).length = 32 := bytesBE_length _
  have h32b : (bytesOf (sumL (mapX 54 (keyL a) ++ ofBytes s))).size = 32 := by rw [bytesOf_size, h32]
  have hsin : bytesIn (sumL (mapX 54 (keyL a) ++ ofBytes s)) := bytesIn_of (bytesBE_in _)
  have hx92 : (bytesOf (mapX 92 (keyL a))).size = 64 := by rw [bytesOf_size, mapX_length, hK]
  rw [List.drop_zero, List.take_of_length_le (by omega), cond_true' (ble_of (by omega))]
  have hsz2 : (bytesOf (mapX 92 (keyL a)) ++ bytesOf (sumL (mapX 54 (keyL a) ++ ofBytes s))).size = 96 := by rw [ByteArray.size_append, hx92, bytesOf_size, h32]
  rw [ref_Sum_eq hk (by omega) (by omega), ofBytes_append, ofBytes_bytesOf (mapX_in _ _), ofBytes_bytesOf hsin]
  unfold keyS
  rw [hsk]
  rfl

theorem shaKeys_true {key s : ByteArray} (h1 : key.size ≤ 140737488351232) (h2 : s.size ≤ 140737488351232) : bedrocklaw02_ShaKeys (key.size + s.size + 300) key s = some (true, ()) := by
  unfold bedrocklaw02_ShaKeys bedrocklaw02_ShaKeys.c
  rw [awake02 (by omega)]
  simp only [Option.bind_some, cond_true]
  rw [sha_Key_eq (by omega) h1 h2 (by omega)]
  simp only [Option.bind_some]
  rw [ref_Key_eq (by omega) h1 h2 (by omega)]
  simp only [Option.bind_some, decide_true]
end Go.Am
