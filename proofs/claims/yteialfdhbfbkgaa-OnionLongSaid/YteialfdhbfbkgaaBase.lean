/-
  Words that all texts of this family use: 32-bit numbers, bytes, and what a slice shows.
-/
import Derived.WalkKit
import Derived.Laws.Bits64b
import Derived.Deep.Draws
import Derived.Lib.Hide
import Derived.Handy
namespace Go.Proofs.Yteialfdhbfbkgaa
set_option linter.unusedVariables false
set_option linter.unusedSimpArgs false
open Go Go.RowKit

@[go_sem] theorem alloc_drewN (w : World) (n : Nat) (o : Obj) : (w.drewN n).alloc o = (w.alloc o).drewN n := rfl
@[go_sem] theorem setCell_drewN (w : World) (n : Nat) (a : Addr) (v : Value) : (w.drewN n).setCell a v = (w.setCell a v).drewN n := rfl
theorem below_drewN {B : Nat} {a w : World} (h : Below B a w) (n : Nat) : Below B a (w.drewN n) := ⟨h.os, h.tape, h.output, h.size, h.block⟩
/-- A 32-bit word as the machine's number. -/
def N32 (x : BitVec 32) : Int := x.toNat
theorem N32_nonneg (x : BitVec 32) : 0 ≤ N32 x := by unfold N32; omega
theorem N32_lt (x : BitVec 32) : N32 x < 4294967296 := by unfold N32; have := x.isLt; omega
theorem wrap_N32 (n : Nat) : IntKind.u32.wrap (n : Int) = N32 (BitVec.ofNat 32 n) := by
  rw [IntKind.wrap_u32]; unfold N32; simp
theorem ofInt_N32 (x : BitVec 32) : BitVec.ofInt 32 (N32 x) = x := by unfold N32; simp
theorem bits32_and (a b : BitVec 32) : bits .and .u32 (N32 a) (N32 b) = N32 (a &&& b) := by
  show IntKind.u32.wrap ((BitVec.ofInt 32 (N32 a) &&& BitVec.ofInt 32 (N32 b)).toNat : Int) = _
  rw [ofInt_N32, ofInt_N32, wrap_N32]; simp
theorem bits32_or (a b : BitVec 32) : bits .or .u32 (N32 a) (N32 b) = N32 (a ||| b) := by
  show IntKind.u32.wrap ((BitVec.ofInt 32 (N32 a) ||| BitVec.ofInt 32 (N32 b)).toNat : Int) = _
  rw [ofInt_N32, ofInt_N32, wrap_N32]; simp
theorem bits32_xor (a b : BitVec 32) : bits .xor .u32 (N32 a) (N32 b) = N32 (a ^^^ b) := by
  show IntKind.u32.wrap ((BitVec.ofInt 32 (N32 a) ^^^ BitVec.ofInt 32 (N32 b)).toNat : Int) = _
  rw [ofInt_N32, ofInt_N32, wrap_N32]; simp
theorem bits32_not (a : BitVec 32) : bits .xor .u32 IntKind.u32.max (N32 a) = N32 (~~~a) := by
  show IntKind.u32.wrap ((BitVec.ofInt 32 IntKind.u32.max ^^^ BitVec.ofInt 32 (N32 a)).toNat : Int) = _
  rw [ofInt_N32, wrap_N32]
  have h : BitVec.ofInt 32 IntKind.u32.max = BitVec.allOnes 32 := by decide
  rw [h, BitVec.allOnes_xor, BitVec.ofNat_toNat, BitVec.setWidth_eq]
theorem add32 (a b : BitVec 32) : IntKind.u32.wrap (N32 a + N32 b) = N32 (a + b) := by
  rw [IntKind.wrap_u32]; unfold N32; simp
theorem add32' (a b : BitVec 32) : (N32 a + N32 b) % 4294967296 = N32 (a + b) := by
  unfold N32; simp
theorem shr32 (a : BitVec 32) (k : Nat) : N32 a / 2 ^ k = N32 (a >>> k) := by
  unfold N32; simp [Nat.shiftRight_eq_div_pow]
theorem shr32_3 (a : BitVec 32) : N32 a / (8 : Int) = N32 (a >>> 3) := shr32 a 3
theorem shr32_10 (a : BitVec 32) : N32 a / (1024 : Int) = N32 (a >>> 10) := shr32 a 10
theorem u32_unsigned : IntKind.u32.signed = false := rfl
theorem rot32 (x : BitVec 32) (k : Nat) (h1 : k < 32) (h0 : 0 < k) : bits .or .u32 (N32 x / 2 ^ k) (N32 x * 2 ^ (32 - k) % 4294967296) = N32 (x.rotateRight k) := by
  have e : N32 x * 2 ^ (32 - k) % 4294967296 = N32 (x <<< (32 - k)) := by
    unfold N32; simp [BitVec.toNat_shiftLeft, Nat.shiftLeft_eq]
  rw [e, shr32, bits32_or]
  rw [BitVec.rotateRight_def]
  congr 3 <;> omega

/-- Eight 32-bit words. -/
structure W8 where
  (a b c d e f g h : BitVec 32)
abbrev cells8 (s : W8) : Array Value := #[.int .u32 (N32 s.a), .int .u32 (N32 s.b), .int .u32 (N32 s.c), .int .u32 (N32 s.d), .int .u32 (N32 s.e), .int .u32 (N32 s.f), .int .u32 (N32 s.g), .int .u32 (N32 s.h)]
abbrev agg8 (s : W8) : Value := .agg (cells8 s)
def W8.get (s : W8) : Nat → BitVec 32
  | 0 => s.a | 1 => s.b | 2 => s.c | 3 => s.d | 4 => s.e | 5 => s.f | 6 => s.g | _ => s.h
/-- One round of SHA-256 with the sum k of its constant and its word. -/
def shaStep (s : W8) (k : BitVec 32) : W8 :=
  let x := s.h + (s.e.rotateRight 6 ^^^ s.e.rotateRight 11 ^^^ s.e.rotateRight 25) + (s.e &&& s.f ^^^ ~~~s.e &&& s.g) + k
  let y := (s.a.rotateRight 2 ^^^ s.a.rotateRight 13 ^^^ s.a.rotateRight 22) + (s.a &&& s.b ^^^ s.a &&& s.c ^^^ s.b &&& s.c)
  ⟨x + y, s.a, s.b, s.c, s.d + x, s.e, s.f, s.g⟩
def W8.add (s t : W8) : W8 := ⟨s.a + t.a, s.b + t.b, s.c + t.c, s.d + t.d, s.e + t.e, s.f + t.f, s.g + t.g, s.h + t.h⟩

/-- A byte as the machine's value. -/
abbrev BV (b : UInt8) : Value := .int .u8 (b.toNat : Int)
/-- What a slice shows: n elements of sz cells each, these cells. -/
def Sees (w : World) (sz : Nat) (v : Value) (n : Nat) (xs : List Value) : Prop :=
  xs.length = n * sz ∧ ∃ a c, v = .slice a n c ∧ n ≤ c ∧ c ≤ maxLen ∧ (a = none → c = 0) ∧
    (0 < n → ∃ b o, a = some ⟨b, o, none⟩ ∧ ∀ j u, xs[j]? = some u → w.cell? ⟨b, o + j, none⟩ = some u)
abbrev SeesB (w : World) (v : Value) (l : List UInt8) : Prop := Sees w 1 v l.length (l.map BV)
/-- A number written with its highest byte first. -/
def beN (l : List UInt8) : Nat := l.foldl (fun x c => x * 256 + c.toNat) 0
theorem beN_snoc (l : List UInt8) (c : UInt8) : beN (l ++ [c]) = beN l * 256 + c.toNat := by simp [beN]
theorem beN_lt (l : List UInt8) : beN l < 256 ^ l.length := by
  have h : ∀ (l : List UInt8) (x n : Nat), x < 256 ^ n → l.foldl (fun x c => x * 256 + c.toNat) x < 256 ^ (n + l.length) := by
    intro l
    induction l with
    | nil => intro x n hx; simpa using hx
    | cons c l ih =>
      intro x n hx
      have := ih (x * 256 + c.toNat) (n + 1) (by have := c.toNat_lt; rw [Nat.pow_succ]; omega)
      simpa [Nat.add_assoc, Nat.add_comm, Nat.add_left_comm] using this
  have := h l 0 0 (by simp)
  unfold beN; simpa using this
theorem or_byte (x c : Nat) (hx : x < 72057594037927936) (hc : c < 256) : bits .or .u64 ((x : Int) * 256) (c : Int) = ((x * 256 + c : Nat) : Int) := by
  have := bits_join .u64 64 (by decide) (fun m a b => by rw [IntKind.wrap_u64]; omega) 8 ((x : Int) * 256) (c : Int) (by omega) (by omega) (by omega) (by omega) (by omega) (by omega)
  rw [this]; simp
theorem take_succ_drop (l : List UInt8) (a k : Nat) (h : a + k < l.length) : (l.drop a).take (k + 1) = (l.drop a).take k ++ [l[a + k]] := by
  rw [List.take_succ_eq_append_getElem (by simp; omega)]; simp
/-- A 32-bit number's bytes, the highest first. -/
def put32 (n : Nat) : List UInt8 := [UInt8.ofNat (n / 16777216), UInt8.ofNat (n / 65536), UInt8.ofNat (n / 256), UInt8.ofNat n]
def put64 (n : Nat) : List UInt8 := put32 (n / 4294967296) ++ put32 (n % 4294967296)
theorem length_put32 (n : Nat) : (put32 n).length = 4 := rfl
theorem length_put64 (n : Nat) : (put64 n).length = 8 := rfl
theorem wrap_u8_nat (n : Nat) : IntKind.u8.wrap (n : Int) = ((UInt8.ofNat n).toNat : Int) := by rw [IntKind.wrap_u8]; simp
theorem put32_cells (n : Nat) (hn : n < 4294967296) : [Value.int .u8 ((n : Int) / 16777216), Value.int .u8 ((n : Int) / 65536 % 256), Value.int .u8 ((n : Int) / 256 % 256), Value.int .u8 ((n : Int) % 256)] = (put32 n).map BV := by
  have h1 : (n : Int) / 16777216 = ((UInt8.ofNat (n / 16777216)).toNat : Int) := by simp; omega
  have h2 : (n : Int) / 65536 % 256 = ((UInt8.ofNat (n / 65536)).toNat : Int) := by simp
  have h3 : (n : Int) / 256 % 256 = ((UInt8.ofNat (n / 256)).toNat : Int) := by simp
  have h4 : (n : Int) % 256 = ((UInt8.ofNat n).toNat : Int) := by simp
  rw [h1, h2, h3, h4]; rfl
theorem mask_u32_255 (x : Int) (h0 : 0 ≤ x) (h : x < 4294967296) : bits .and .u32 x 255 = x % 256 := by
  have := bits_mask .u32 32 (by decide) (fun m a b => by rw [IntKind.wrap_u32]; omega) 8 (by decide) x h0 (by omega)
  simpa using this
theorem mask_u64 (x : Int) (i : Nat) (hi : i ≤ 64) (h0 : 0 ≤ x) (h : x < 18446744073709551616) : bits .and .u64 x (2 ^ i - 1) = x % 2 ^ i :=
  bits_mask .u64 64 (by decide) (fun m a b => by rw [IntKind.wrap_u64]; omega) i hi x h0 (by omega)
theorem mask_u64_32 (x : Int) (h0 : 0 ≤ x) (h : x < 18446744073709551616) : bits .and .u64 x 4294967295 = x % 4294967296 := mask_u64 x 32 (by omega) h0 h
theorem ofNat_mod (n : Nat) : UInt8.ofNat (n % 256) = UInt8.ofNat n := by apply UInt8.toNat.inj; simp

def sig0 (x : BitVec 32) : BitVec 32 := x.rotateRight 7 ^^^ x.rotateRight 18 ^^^ x >>> 3
def sig1 (x : BitVec 32) : BitVec 32 := x.rotateRight 17 ^^^ x.rotateRight 19 ^^^ x >>> 10
/-- The words of the 64 rounds, out of a block's sixteen. -/
def shaW (m : Nat → BitVec 32) (i : Nat) : BitVec 32 :=
  if i < 16 then m i else shaW m (i - 16) + sig0 (shaW m (i - 15)) + shaW m (i - 7) + sig1 (shaW m (i - 2))
termination_by i
/-- The sixteen words of a block of bytes. -/
def blkW (l : List UInt8) (i : Nat) : BitVec 32 := BitVec.ofNat 32 (beN ((l.drop (4 * i)).take 4))
/-- An array of n 32-bit words. -/
def arr32 (n : Nat) (f : Nat → BitVec 32) : Array Value := ((List.range n).map fun i => Value.int .u32 (N32 (f i))).toArray
theorem arr32_size (n : Nat) (f : Nat → BitVec 32) : (arr32 n f).size = n := by simp [arr32]
theorem arr32_get (n : Nat) (f : Nat → BitVec 32) (i : Nat) (h : i < n) : (arr32 n f)[i]? = some (Value.int .u32 (N32 (f i))) := by simp [arr32, h]
theorem arr32_zero64 : arr32 64 (fun _ => 0) = #[.int .u32 0, .int .u32 0, .int .u32 0, .int .u32 0, .int .u32 0, .int .u32 0, .int .u32 0, .int .u32 0, .int .u32 0, .int .u32 0, .int .u32 0, .int .u32 0, .int .u32 0, .int .u32 0, .int .u32 0, .int .u32 0, .int .u32 0, .int .u32 0, .int .u32 0, .int .u32 0, .int .u32 0, .int .u32 0, .int .u32 0, .int .u32 0, .int .u32 0, .int .u32 0, .int .u32 0, .int .u32 0, .int .u32 0, .int .u32 0, .int .u32 0, .int .u32 0, .int .u32 0, .int .u32 0, .int .u32 0, .int .u32 0, .int .u32 0, .int .u32 0, .int .u32 0, .int .u32 0, .int .u32 0, .int .u32 0, .int .u32 0, .int .u32 0, .int .u32 0, .int .u32 0, .int .u32 0, .int .u32 0, .int .u32 0, .int .u32 0, .int .u32 0, .int .u32 0, .int .u32 0, .int .u32 0, .int .u32 0, .int .u32 0, .int .u32 0, .int .u32 0, .int .u32 0, .int .u32 0, .int .u32 0, .int .u32 0, .int .u32 0, .int .u32 0] := rfl
theorem arr32_one (n : Nat) (f : Nat → BitVec 32) : ∀ v ∈ (arr32 n f).toList, v.oneCell' = true := by
  intro v hv; simp [arr32] at hv; obtain ⟨i, _, rfl⟩ := hv; rfl
theorem arr32_set (n : Nat) (f : Nat → BitVec 32) (i : Nat) (x : BitVec 32) : (arr32 n f).setIfInBounds i (Value.int .u32 (N32 x)) = arr32 n (fun j => if j = i then x else f j) := by
  apply Array.ext_getElem?
  intro j
  simp only [arr32, Array.getElem?_setIfInBounds, List.getElem?_toArray, List.getElem?_map, List.size_toArray, List.length_map, List.length_range]
  by_cases h : j < n
  · by_cases e : i = j
    · subst e; simp [h]
    · simp [h, e, show ¬ j = i from fun e' => e e'.symm]
  · simp [h]; intro e; omega
theorem arr32_congr {n : Nat} {f g : Nat → BitVec 32} (h : ∀ i, i < n → f i = g i) : arr32 n f = arr32 n g := by
  unfold arr32; congr 1; apply List.map_congr_left; intro i hi; rw [h i (by simpa using hi)]
theorem size8 (s : W8) : (cells8 s).size = 8 := rfl
theorem cells8_arr (s : W8) : cells8 s = arr32 8 s.get := rfl
theorem add8_arr (s t : W8) : arr32 8 (fun j => s.get j + t.get j) = cells8 (s.add t) := rfl
/-- The first n rounds. -/
def shaRounds (s : W8) (k m : Nat → BitVec 32) : Nat → W8
  | 0 => s
  | n + 1 => shaStep (shaRounds s k m n) (k n + m n)
def shaMix (s : W8) (k : Nat → BitVec 32) (l : List UInt8) : W8 := s.add (shaRounds s k (shaW (blkW l)) 64)
/-- The constants of the rounds, and the words that a sum begins with. -/
def shaKs : List (BitVec 32) := [1116352408#32, 1899447441#32, 3049323471#32, 3921009573#32, 961987163#32, 1508970993#32, 2453635748#32, 2870763221#32, 3624381080#32, 310598401#32, 607225278#32, 1426881987#32, 1925078388#32, 2162078206#32, 2614888103#32, 3248222580#32, 3835390401#32, 4022224774#32, 264347078#32, 604807628#32, 770255983#32, 1249150122#32, 1555081692#32, 1996064986#32, 2554220882#32, 2821834349#32, 2952996808#32, 3210313671#32, 3336571891#32, 3584528711#32, 113926993#32, 338241895#32, 666307205#32, 773529912#32, 1294757372#32, 1396182291#32, 1695183700#32, 1986661051#32, 2177026350#32, 2456956037#32, 2730485921#32, 2820302411#32, 3259730800#32, 3345764771#32, 3516065817#32, 3600352804#32, 4094571909#32, 275423344#32, 430227734#32, 506948616#32, 659060556#32, 883997877#32, 958139571#32, 1322822218#32, 1537002063#32, 1747873779#32, 1955562222#32, 2024104815#32, 2227730452#32, 2361852424#32, 2428436474#32, 2756734187#32, 3204031479#32, 3329325298#32]
def shaK (i : Nat) : BitVec 32 := shaKs.getD i 0
def shaInit : W8 := ⟨1779033703#32, 3144134277#32, 1013904242#32, 2773480762#32, 1359893119#32, 2600822924#32, 528734635#32, 1541459225#32⟩
theorem shaK_arr : arr32 64 shaK = #[.int .u32 1116352408, .int .u32 1899447441, .int .u32 3049323471, .int .u32 3921009573, .int .u32 961987163, .int .u32 1508970993, .int .u32 2453635748, .int .u32 2870763221, .int .u32 3624381080, .int .u32 310598401, .int .u32 607225278, .int .u32 1426881987, .int .u32 1925078388, .int .u32 2162078206, .int .u32 2614888103, .int .u32 3248222580, .int .u32 3835390401, .int .u32 4022224774, .int .u32 264347078, .int .u32 604807628, .int .u32 770255983, .int .u32 1249150122, .int .u32 1555081692, .int .u32 1996064986, .int .u32 2554220882, .int .u32 2821834349, .int .u32 2952996808, .int .u32 3210313671, .int .u32 3336571891, .int .u32 3584528711, .int .u32 113926993, .int .u32 338241895, .int .u32 666307205, .int .u32 773529912, .int .u32 1294757372, .int .u32 1396182291, .int .u32 1695183700, .int .u32 1986661051, .int .u32 2177026350, .int .u32 2456956037, .int .u32 2730485921, .int .u32 2820302411, .int .u32 3259730800, .int .u32 3345764771, .int .u32 3516065817, .int .u32 3600352804, .int .u32 4094571909, .int .u32 275423344, .int .u32 430227734, .int .u32 506948616, .int .u32 659060556, .int .u32 883997877, .int .u32 958139571, .int .u32 1322822218, .int .u32 1537002063, .int .u32 1747873779, .int .u32 1955562222, .int .u32 2024104815, .int .u32 2227730452, .int .u32 2361852424, .int .u32 2428436474, .int .u32 2756734187, .int .u32 3204031479, .int .u32 3329325298] := by rfl
theorem shaInit_arr : cells8 shaInit = #[.int .u32 1779033703, .int .u32 3144134277, .int .u32 1013904242, .int .u32 2773480762, .int .u32 1359893119, .int .u32 2600822924, .int .u32 528734635, .int .u32 1541459225] := by rfl
/-- How many zero bytes stand ahead of the length, and the padded bytes. -/
def padN (n : Nat) : Nat := (119 - n % 64) % 64
def shaPad (l : List UInt8) : List UInt8 := l ++ [128] ++ List.replicate (padN l.length) 0 ++ put64 (l.length * 8)
/-- The first n blocks of bytes mixed in. -/
def shaBlocks (p : List UInt8) : Nat → W8
  | 0 => shaInit
  | n + 1 => shaMix (shaBlocks p n) shaK ((p.drop (64 * n)).take 64)
/-- The first n words' bytes. -/
def bytes8 (s : W8) (n : Nat) : List UInt8 := (List.range n).flatMap fun i => put32 (s.get i).toNat
theorem bytes8_succ (s : W8) (n : Nat) : bytes8 s (n + 1) = bytes8 s n ++ put32 (s.get n).toNat := by simp [bytes8, List.range_succ]
theorem length_bytes8 (s : W8) (n : Nat) : (bytes8 s n).length = 4 * n := by
  induction n with
  | zero => rfl
  | succ n ih => rw [bytes8_succ, List.length_append, ih, length_put32]; omega
/-- SHA-256. -/
def sha (l : List UInt8) : List UInt8 := bytes8 (shaBlocks (shaPad l) ((shaPad l).length / 64)) 8
theorem length_sha (l : List UInt8) : (sha l).length = 32 := length_bytes8 _ 8
theorem length_shaPad (l : List UInt8) : (shaPad l).length = l.length + 9 + padN l.length := by simp [shaPad, length_put64]; omega
theorem shaPad_mod (l : List UInt8) : (shaPad l).length % 64 = 0 := by rw [length_shaPad]; unfold padN; omega
/-- The bytes of an array value. -/
def keyA (l : List UInt8) : Array Value := (l.map BV).toArray
theorem keyA_size (l : List UInt8) : (keyA l).size = l.length := by simp [keyA]
theorem keyA_zero : keyA (List.replicate 32 0) = #[.int .u8 0, .int .u8 0, .int .u8 0, .int .u8 0, .int .u8 0, .int .u8 0, .int .u8 0, .int .u8 0, .int .u8 0, .int .u8 0, .int .u8 0, .int .u8 0, .int .u8 0, .int .u8 0, .int .u8 0, .int .u8 0, .int .u8 0, .int .u8 0, .int .u8 0, .int .u8 0, .int .u8 0, .int .u8 0, .int .u8 0, .int .u8 0, .int .u8 0, .int .u8 0, .int .u8 0, .int .u8 0, .int .u8 0, .int .u8 0, .int .u8 0, .int .u8 0] := by rfl
/-- Parts, each behind its length. -/
def flatP (ll : List (List UInt8)) : List UInt8 := ll.flatMap fun x => put64 x.length ++ x
def parts (ll : List (List UInt8)) : List UInt8 := sha (flatP ll)
theorem flatP_snoc (ll : List (List UInt8)) (x : List UInt8) : flatP (ll ++ [x]) = flatP ll ++ put64 x.length ++ x := by simp [flatP]
theorem flatP_take_le (ll : List (List UInt8)) (k : Nat) : (flatP (ll.take k)).length ≤ (flatP ll).length := by
  have h : flatP ll = flatP (ll.take k) ++ flatP (ll.drop k) := by unfold flatP; rw [← List.flatMap_append, List.take_append_drop]
  rw [h, List.length_append]; omega
theorem shaW_congr {f g : Nat → BitVec 32} (h : ∀ i, i < 16 → f i = g i) : ∀ i, shaW f i = shaW g i := by
  intro i
  induction i using Nat.strongRecOn with
  | _ i ih =>
    rw [shaW.eq_1 f i, shaW.eq_1 g i]
    by_cases hi : i < 16
    · rw [if_pos hi, if_pos hi, h i hi]
    · rw [if_neg hi, if_neg hi, ih (i - 16) (by omega), ih (i - 15) (by omega), ih (i - 7) (by omega), ih (i - 2) (by omega)]
theorem blkW_take (l : List UInt8) (i : Nat) (h : i < 16) : blkW (l.take 64) i = BitVec.ofNat 32 (beN ((l.drop (4 * i)).take 4)) := by
  unfold blkW; rw [List.drop_take, List.take_take, Nat.min_eq_left (by omega)]
/-- An array of n bytes. -/
def arrB (n : Nat) (f : Nat → UInt8) : Array Value := ((List.range n).map fun i => BV (f i)).toArray
theorem arrB_size (n : Nat) (f : Nat → UInt8) : (arrB n f).size = n := by simp [arrB]
theorem arrB_get (n : Nat) (f : Nat → UInt8) (i : Nat) (h : i < n) : (arrB n f)[i]? = some (BV (f i)) := by simp [arrB, h]
theorem arrB_one (n : Nat) (f : Nat → UInt8) : ∀ v ∈ (arrB n f).toList, v.oneCell' = true := by
  intro v hv; simp [arrB] at hv; obtain ⟨i, _, rfl⟩ := hv; rfl
theorem arrB_set (n : Nat) (f : Nat → UInt8) (i : Nat) (x : UInt8) : (arrB n f).setIfInBounds i (BV x) = arrB n (fun j => if j = i then x else f j) := by
  apply Array.ext_getElem?
  intro j
  simp only [arrB, Array.getElem?_setIfInBounds, List.getElem?_toArray, List.getElem?_map, List.size_toArray, List.length_map, List.length_range]
  by_cases h : j < n
  · by_cases e : i = j
    · subst e; simp [h]
    · simp [h, e, show ¬ j = i from fun e' => e e'.symm]
  · simp [h]; intro e; omega
theorem arrB_congr {n : Nat} {f g : Nat → UInt8} (h : ∀ i, i < n → f i = g i) : arrB n f = arrB n g := by
  unfold arrB; congr 1; apply List.map_congr_left; intro i hi; rw [h i (by simpa using hi)]
theorem keyA_arrB (l : List UInt8) : keyA l = arrB l.length (fun i => l.getD i 0) := by
  unfold keyA arrB; congr 1
  apply List.ext_getElem (by simp)
  intro i h1 h2; simp at h1; simp [h1]
theorem arrB_step {n k : Nat} {f : Nat → UInt8} : (arrB n (fun j => if j < k then f j else 0)).setIfInBounds k (BV (f k)) = arrB n (fun j => if j < k + 1 then f j else 0) := by
  rw [arrB_set]
  apply arrB_congr
  intro j _
  by_cases e : j = k
  · subst e; simp
  · by_cases e2 : j < k
    · simp [e, e2, show j < k + 1 from by omega]
    · simp [e, e2, show ¬ j < k + 1 from by omega]
theorem shaRounds_congr {s : W8} {k f g : Nat → BitVec 32} (h : ∀ i, f i = g i) (n : Nat) : shaRounds s k f n = shaRounds s k g n := by
  rw [show f = g from funext h]
end Go.Proofs.Yteialfdhbfbkgaa
