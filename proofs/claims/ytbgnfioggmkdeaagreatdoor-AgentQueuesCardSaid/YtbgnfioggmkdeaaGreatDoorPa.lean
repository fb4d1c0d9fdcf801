/-
  Words that all texts of this family use: 32-bit numbers, bytes, and what a slice shows.
  What slices show and own, carried from world to world; the append law over what a slice shows.
  Numbers out of bytes and into bytes: both programs.
  A region that draws its order: a head that only reads (and calls what only reads), walked once, and a tail whose order is forced.
  A region that draws its order, walked by a schedule: phases of operations that read only, each followed by the one operation that must come next.
  A region that draws its order, walked by a tree: where several operations that are not quiet may come next, one branch for each.
-/
import Derived.WalkKit
import Derived.Laws.Bits64b
import Derived.Deep.Draws
import Derived.Lib.Hide
import Derived.Handy
import Derived.Test.YtbgnfioggmkdeaaGreatDoorProg
import Derived.KernelRfl
import Derived.Deep.MidRow
import Derived.Laws.AppendOwnNone
import Derived.BigQuiet
import Derived.Deep.QuietTactic
import Derived.StillTailTactics
import Derived.Laws.Rows
import Derived.Deep.RegionHeld3
namespace Go.Proofs.YtbgnfioggmkdeaaGreatDoor
set_option linter.unusedVariables false
set_option linter.unusedSimpArgs false
open Go Go.RowKit

@[go_sem] theorem alloc_drewN (w : World) (n : Nat) (o : Obj) : (w.drewN n).alloc o = (w.alloc o).drewN n := rfl
@[go_sem] theorem setCell_drewN (w : World) (n : Nat) (a : Addr) (v : Value) : (w.drewN n).setCell a v = (w.setCell a v).drewN n := rfl
theorem below_drewN {B : Nat} {a w : World} (h : Below B a w) (n : Nat) : Below B a (w.drewN n) := ⟨h.os, h.tape, h.output, h.size, h.block⟩
/-- A 32-bit word as the machine's number. -/
def N32 (x : BitVec 32) : Int := x.toNat
theorem N32_nonneg (x : BitVec 32) : 0 ≤ N32 x := by unfold N32; omega
theorem N32_lt (x : BitVec 32) : N32 x < 4294967296 := by unfold N32; have := x.isLt; omega
theorem wrap_N32 (n : Nat) : IntKind.u32.wrap (n : Int) = N32 (BitVec.ofNat 32 n) := by
  rw [IntKind.wrap_u32]; unfold N32; simp
theorem ofInt_N32 (x : BitVec 32) : BitVec.ofInt 32 (N32 x) = x := by unfold N32; simp
theorem bits32_and (a b : BitVec 32) : bits .and .u32 (N32 a) (N32 b) = N32 (a &&& b) := by
  show IntKind.u32.wrap ((BitVec.ofInt 32 (N32 a) &&& BitVec.ofInt 32 (N32 b)).toNat : Int) = _
  rw [ofInt_N32, ofInt_N32, wrap_N32]; simp
theorem bits32_or (a b : BitVec 32) : bits .or .u32 (N32 a) (N32 b) = N32 (a ||| b) := by
  show IntKind.u32.wrap ((BitVec.ofInt 32 (N32 a) ||| BitVec.ofInt 32 (N32 b)).toNat : Int) = _
  rw [ofInt_N32, ofInt_N32, wrap_N32]; simp
theorem bits32_xor (a b : BitVec 32) : bits .xor .u32 (N32 a) (N32 b) = N32 (a ^^^ b) := by
  show IntKind.u32.wrap ((BitVec.ofInt 32 (N32 a) ^^^ BitVec.ofInt 32 (N32 b)).toNat : Int) = _
  rw [ofInt_N32, ofInt_N32, wrap_N32]; simp
theorem bits32_not (a : BitVec 32) : bits .xor .u32 IntKind.u32.max (N32 a) = N32 (~~~a) := by
  show IntKind.u32.wrap ((BitVec.ofInt 32 IntKind.u32.max ^^^ BitVec.ofInt 32 (N32 a)).toNat : Int) = _
  rw [ofInt_N32, wrap_N32]
  have h : BitVec.ofInt 32 IntKind.u32.max = BitVec.allOnes 32 := by decide
  rw [h, BitVec.allOnes_xor, BitVec.ofNat_toNat, BitVec.setWidth_eq]
theorem add32 (a b : BitVec 32) : IntKind.u32.wrap (N32 a + N32 b) = N32 (a + b) := by
  rw [IntKind.wrap_u32]; unfold N32; simp
theorem add32' (a b : BitVec 32) : (N32 a + N32 b) % 4294967296 = N32 (a + b) := by
  unfold N32; simp
theorem shr32 (a : BitVec 32) (k : Nat) : N32 a / 2 ^ k = N32 (a >>> k) := by
  unfold N32; simp [Nat.shiftRight_eq_div_pow]
theorem shr32_3 (a : BitVec 32) : N32 a / (8 : Int) = N32 (a >>> 3) := shr32 a 3
theorem shr32_10 (a : BitVec 32) : N32 a / (1024 : Int) = N32 (a >>> 10) := shr32 a 10
theorem u32_unsigned : IntKind.u32.signed = false := rfl
theorem rot32 (x : BitVec 32) (k : Nat) (h1 : k < 32) (h0 : 0 < k) : bits .or .u32 (N32 x / 2 ^ k) (N32 x * 2 ^ (32 - k) % 4294967296) = N32 (x.rotateRight k) := by
  have e : N32 x * 2 ^ (32 - k) % 4294967296 = N32 (x <<< (32 - k)) := by
    unfold N32; simp [BitVec.toNat_shiftLeft, Nat.shiftLeft_eq]
  rw [e, shr32, bits32_or]
  rw [BitVec.rotateRight_def]
  congr 3 <;> omega

/-- Eight 32-bit words. -/
structure W8 where
  (a b c d e f g h : BitVec 32)
abbrev cells8 (s : W8) : Array Value := #[.int .u32 (N32 s.a), .int .u32 (N32 s.b), .int .u32 (N32 s.c), .int .u32 (N32 s.d), .int .u32 (N32 s.e), .int .u32 (N32 s.f), .int .u32 (N32 s.g), .int .u32 (N32 s.h)]
abbrev agg8 (s : W8) : Value := .agg (cells8 s)
def W8.get (s : W8) : Nat → BitVec 32
  | 0 => s.a | 1 => s.b | 2 => s.c | 3 => s.d | 4 => s.e | 5 => s.f | 6 => s.g | _ => s.h
/-- One round of SHA-256 with the sum k of its constant and its word. -/
def shaStep (s : W8) (k : BitVec 32) : W8 :=
  let x := s.h + (s.e.rotateRight 6 ^^^ s.e.rotateRight 11 ^^^ s.e.rotateRight 25) + (s.e &&& s.f ^^^ ~~~s.e &&& s.g) + k
  let y := (s.a.rotateRight 2 ^^^ s.a.rotateRight 13 ^^^ s.a.rotateRight 22) + (s.a &&& s.b ^^^ s.a &&& s.c ^^^ s.b &&& s.c)
  ⟨x + y, s.a, s.b, s.c, s.d + x, s.e, s.f, s.g⟩
def W8.add (s t : W8) : W8 := ⟨s.a + t.a, s.b + t.b, s.c + t.c, s.d + t.d, s.e + t.e, s.f + t.f, s.g + t.g, s.h + t.h⟩

/-- A byte as the machine's value. -/
abbrev BV (b : UInt8) : Value := .int .u8 (b.toNat : Int)
/-- What a slice shows: n elements of sz cells each, these cells. -/
def Sees (w : World) (sz : Nat) (v : Value) (n : Nat) (xs : List Value) : Prop :=
  xs.length = n * sz ∧ ∃ a c, v = .slice a n c ∧ n ≤ c ∧ c ≤ maxLen ∧ (a = none → c = 0) ∧
    (0 < n → ∃ b o, a = some ⟨b, o, none⟩ ∧ ∀ j u, xs[j]? = some u → w.cell? ⟨b, o + j, none⟩ = some u)
abbrev SeesB (w : World) (v : Value) (l : List UInt8) : Prop := Sees w 1 v l.length (l.map BV)
/-- A number written with its highest byte first. -/
def beN (l : List UInt8) : Nat := l.foldl (fun x c => x * 256 + c.toNat) 0
theorem beN_snoc (l : List UInt8) (c : UInt8) : beN (l ++ [c]) = beN l * 256 + c.toNat := by simp [beN]
theorem beN_lt (l : List UInt8) : beN l < 256 ^ l.length := by
  have h : ∀ (l : List UInt8) (x n : Nat), x < 256 ^ n → l.foldl (fun x c => x * 256 + c.toNat) x < 256 ^ (n + l.length) := by
    intro l
    induction l with
    | nil => intro x n hx; simpa using hx
    | cons c l ih =>
      intro x n hx
      have := ih (x * 256 + c.toNat) (n + 1) (by have := c.toNat_lt; rw [Nat.pow_succ]; omega)
      simpa [Nat.add_assoc, Nat.add_comm, Nat.add_left_comm] using this
  have := h l 0 0 (by simp)
  unfold beN; simpa using this
theorem or_byte (x c : Nat) (hx : x < 72057594037927936) (hc : c < 256) : bits .or .u64 ((x : Int) * 256) (c : Int) = ((x * 256 + c : Nat) : Int) := by
  have := bits_join .u64 64 (by decide) (fun m a b => by rw [IntKind.wrap_u64]; omega) 8 ((x : Int) * 256) (c : Int) (by omega) (by omega) (by omega) (by omega) (by omega) (by omega)
  rw [this]; simp
theorem take_succ_drop (l : List UInt8) (a k : Nat) (h : a + k < l.length) : (l.drop a).take (k + 1) = (l.drop a).take k ++ [l[a + k]] := by
  rw [List.take_succ_eq_append_getElem (by simp; omega)]; simp
/-- A 32-bit number's bytes, the highest first. -/
def put32 (n : Nat) : List UInt8 := [UInt8.ofNat (n / 16777216), UInt8.ofNat (n / 65536), UInt8.ofNat (n / 256), UInt8.ofNat n]
def put64 (n : Nat) : List UInt8 := put32 (n / 4294967296) ++ put32 (n % 4294967296)
theorem length_put32 (n : Nat) : (put32 n).length = 4 := rfl
theorem length_put64 (n : Nat) : (put64 n).length = 8 := rfl
theorem wrap_u8_nat (n : Nat) : IntKind.u8.wrap (n : Int) = ((UInt8.ofNat n).toNat : Int) := by rw [IntKind.wrap_u8]; simp
theorem put32_cells (n : Nat) (hn : n < 4294967296) : [Value.int .u8 ((n : Int) / 16777216), Value.int .u8 ((n : Int) / 65536 % 256), Value.int .u8 ((n : Int) / 256 % 256), Value.int .u8 ((n : Int) % 256)] = (put32 n).map BV := by
  have h1 : (n : Int) / 16777216 = ((UInt8.ofNat (n / 16777216)).toNat : Int) := by simp; omega
  have h2 : (n : Int) / 65536 % 256 = ((UInt8.ofNat (n / 65536)).toNat : Int) := by simp
  have h3 : (n : Int) / 256 % 256 = ((UInt8.ofNat (n / 256)).toNat : Int) := by simp
  have h4 : (n : Int) % 256 = ((UInt8.ofNat n).toNat : Int) := by simp
  rw [h1, h2, h3, h4]; rfl
theorem mask_u32_255 (x : Int) (h0 : 0 ≤ x) (h : x < 4294967296) : bits .and .u32 x 255 = x % 256 := by
  have := bits_mask .u32 32 (by decide) (fun m a b => by rw [IntKind.wrap_u32]; omega) 8 (by decide) x h0 (by omega)
  simpa using this
theorem mask_u64 (x : Int) (i : Nat) (hi : i ≤ 64) (h0 : 0 ≤ x) (h : x < 18446744073709551616) : bits .and .u64 x (2 ^ i - 1) = x % 2 ^ i :=
  bits_mask .u64 64 (by decide) (fun m a b => by rw [IntKind.wrap_u64]; omega) i hi x h0 (by omega)
theorem mask_u64_32 (x : Int) (h0 : 0 ≤ x) (h : x < 18446744073709551616) : bits .and .u64 x 4294967295 = x % 4294967296 := mask_u64 x 32 (by omega) h0 h
theorem ofNat_mod (n : Nat) : UInt8.ofNat (n % 256) = UInt8.ofNat n := by apply UInt8.toNat.inj; simp

def sig0 (x : BitVec 32) : BitVec 32 := x.rotateRight 7 ^^^ x.rotateRight 18 ^^^ x >>> 3
def sig1 (x : BitVec 32) : BitVec 32 := x.rotateRight 17 ^^^ x.rotateRight 19 ^^^ x >>> 10
/-- The words of the 64 rounds, out of a block's sixteen. -/
def shaW (m : Nat → BitVec 32) (i : Nat) : BitVec 32 :=
  if i < 16 then m i else shaW m (i - 16) + sig0 (shaW m (i - 15)) + shaW m (i - 7) + sig1 (shaW m (i - 2))
termination_by i
/-- The sixteen words of a block of bytes. -/
def blkW (l : List UInt8) (i : Nat) : BitVec 32 := BitVec.ofNat 32 (beN ((l.drop (4 * i)).take 4))
/-- An array of n 32-bit words. -/
def arr32 (n : Nat) (f : Nat → BitVec 32) : Array Value := ((List.range n).map fun i => Value.int .u32 (N32 (f i))).toArray
theorem arr32_size (n : Nat) (f : Nat → BitVec 32) : (arr32 n f).size = n := by simp [arr32]
theorem arr32_get (n : Nat) (f : Nat → BitVec 32) (i : Nat) (h : i < n) : (arr32 n f)[i]? = some (Value.int .u32 (N32 (f i))) := by simp [arr32, h]
theorem arr32_zero64 : arr32 64 (fun _ => 0) = #[.int .u32 0, .int .u32 0, .int .u32 0, .int .u32 0, .int .u32 0, .int .u32 0, .int .u32 0, .int .u32 0, .int .u32 0, .int .u32 0, .int .u32 0, .int .u32 0, .int .u32 0, .int .u32 0, .int .u32 0, .int .u32 0, .int .u32 0, .int .u32 0, .int .u32 0, .int .u32 0, .int .u32 0, .int .u32 0, .int .u32 0, .int .u32 0, .int .u32 0, .int .u32 0, .int .u32 0, .int .u32 0, .int .u32 0, .int .u32 0, .int .u32 0, .int .u32 0, .int .u32 0, .int .u32 0, .int .u32 0, .int .u32 0, .int .u32 0, .int .u32 0, .int .u32 0, .int .u32 0, .int .u32 0, .int .u32 0, .int .u32 0, .int .u32 0, .int .u32 0, .int .u32 0, .int .u32 0, .int .u32 0, .int .u32 0, .int .u32 0, .int .u32 0, .int .u32 0, .int .u32 0, .int .u32 0, .int .u32 0, .int .u32 0, .int .u32 0, .int .u32 0, .int .u32 0, .int .u32 0, .int .u32 0, .int .u32 0, .int .u32 0, .int .u32 0] := rfl
theorem arr32_one (n : Nat) (f : Nat → BitVec 32) : ∀ v ∈ (arr32 n f).toList, v.oneCell' = true := by
  intro v hv; simp [arr32] at hv; obtain ⟨i, _, rfl⟩ := hv; rfl
theorem arr32_set (n : Nat) (f : Nat → BitVec 32) (i : Nat) (x : BitVec 32) : (arr32 n f).setIfInBounds i (Value.int .u32 (N32 x)) = arr32 n (fun j => if j = i then x else f j) := by
  apply Array.ext_getElem?
  intro j
  simp only [arr32, Array.getElem?_setIfInBounds, List.getElem?_toArray, List.getElem?_map, List.size_toArray, List.length_map, List.length_range]
  by_cases h : j < n
  · by_cases e : i = j
    · subst e; simp [h]
    · simp [h, e, show ¬ j = i from fun e' => e e'.symm]
  · simp [h]; intro e; omega
theorem arr32_congr {n : Nat} {f g : Nat → BitVec 32} (h : ∀ i, i < n → f i = g i) : arr32 n f = arr32 n g := by
  unfold arr32; congr 1; apply List.map_congr_left; intro i hi; rw [h i (by simpa using hi)]
theorem size8 (s : W8) : (cells8 s).size = 8 := rfl
theorem cells8_arr (s : W8) : cells8 s = arr32 8 s.get := rfl
theorem add8_arr (s t : W8) : arr32 8 (fun j => s.get j + t.get j) = cells8 (s.add t) := rfl
/-- The first n rounds. -/
def shaRounds (s : W8) (k m : Nat → BitVec 32) : Nat → W8
  | 0 => s
  | n + 1 => shaStep (shaRounds s k m n) (k n + m n)
def shaMix (s : W8) (k : Nat → BitVec 32) (l : List UInt8) : W8 := s.add (shaRounds s k (shaW (blkW l)) 64)
/-- The constants of the rounds, and the words that a sum begins with. -/
def shaKs : List (BitVec 32) := [1116352408#32, 1899447441#32, 3049323471#32, 3921009573#32, 961987163#32, 1508970993#32, 2453635748#32, 2870763221#32, 3624381080#32, 310598401#32, 607225278#32, 1426881987#32, 1925078388#32, 2162078206#32, 2614888103#32, 3248222580#32, 3835390401#32, 4022224774#32, 264347078#32, 604807628#32, 770255983#32, 1249150122#32, 1555081692#32, 1996064986#32, 2554220882#32, 2821834349#32, 2952996808#32, 3210313671#32, 3336571891#32, 3584528711#32, 113926993#32, 338241895#32, 666307205#32, 773529912#32, 1294757372#32, 1396182291#32, 1695183700#32, 1986661051#32, 2177026350#32, 2456956037#32, 2730485921#32, 2820302411#32, 3259730800#32, 3345764771#32, 3516065817#32, 3600352804#32, 4094571909#32, 275423344#32, 430227734#32, 506948616#32, 659060556#32, 883997877#32, 958139571#32, 1322822218#32, 1537002063#32, 1747873779#32, 1955562222#32, 2024104815#32, 2227730452#32, 2361852424#32, 2428436474#32, 2756734187#32, 3204031479#32, 3329325298#32]
def shaK (i : Nat) : BitVec 32 := shaKs.getD i 0
def shaInit : W8 := ⟨1779033703#32, 3144134277#32, 1013904242#32, 2773480762#32, 1359893119#32, 2600822924#32, 528734635#32, 1541459225#32⟩
theorem shaK_arr : arr32 64 shaK = #[.int .u32 1116352408, .int .u32 1899447441, .int .u32 3049323471, .int .u32 3921009573, .int .u32 961987163, .int .u32 1508970993, .int .u32 2453635748, .int .u32 2870763221, .int .u32 3624381080, .int .u32 310598401, .int .u32 607225278, .int .u32 1426881987, .int .u32 1925078388, .int .u32 2162078206, .int .u32 2614888103, .int .u32 3248222580, .int .u32 3835390401, .int .u32 4022224774, .int .u32 264347078, .int .u32 604807628, .int .u32 770255983, .int .u32 1249150122, .int .u32 1555081692, .int .u32 1996064986, .int .u32 2554220882, .int .u32 2821834349, .int .u32 2952996808, .int .u32 3210313671, .int .u32 3336571891, .int .u32 3584528711, .int .u32 113926993, .int .u32 338241895, .int .u32 666307205, .int .u32 773529912, .int .u32 1294757372, .int .u32 1396182291, .int .u32 1695183700, .int .u32 1986661051, .int .u32 2177026350, .int .u32 2456956037, .int .u32 2730485921, .int .u32 2820302411, .int .u32 3259730800, .int .u32 3345764771, .int .u32 3516065817, .int .u32 3600352804, .int .u32 4094571909, .int .u32 275423344, .int .u32 430227734, .int .u32 506948616, .int .u32 659060556, .int .u32 883997877, .int .u32 958139571, .int .u32 1322822218, .int .u32 1537002063, .int .u32 1747873779, .int .u32 1955562222, .int .u32 2024104815, .int .u32 2227730452, .int .u32 2361852424, .int .u32 2428436474, .int .u32 2756734187, .int .u32 3204031479, .int .u32 3329325298] := by rfl
theorem shaInit_arr : cells8 shaInit = #[.int .u32 1779033703, .int .u32 3144134277, .int .u32 1013904242, .int .u32 2773480762, .int .u32 1359893119, .int .u32 2600822924, .int .u32 528734635, .int .u32 1541459225] := by rfl
/-- How many zero bytes stand ahead of the length, and the padded bytes. -/
def padN (n : Nat) : Nat := (119 - n % 64) % 64
def shaPad (l : List UInt8) : List UInt8 := l ++ [128] ++ List.replicate (padN l.length) 0 ++ put64 (l.length * 8)
/-- The first n blocks of bytes mixed in. -/
def shaBlocks (p : List UInt8) : Nat → W8
  | 0 => shaInit
  | n + 1 => shaMix (shaBlocks p n) shaK ((p.drop (64 * n)).take 64)
/-- The first n words' bytes. -/
def bytes8 (s : W8) (n : Nat) : List UInt8 := (List.range n).flatMap fun i => put32 (s.get i).toNat
theorem bytes8_succ (s : W8) (n : Nat) : bytes8 s (n + 1) = bytes8 s n ++ put32 (s.get n).toNat := by simp [bytes8, List.range_succ]
theorem length_bytes8 (s : W8) (n : Nat) : (bytes8 s n).length = 4 * n := by
  induction n with
  | zero => rfl
  | succ n ih => rw [bytes8_succ, List.length_append, ih, length_put32]; omega
/-- SHA-256. -/
def sha (l : List UInt8) : List UInt8 := bytes8 (shaBlocks (shaPad l) ((shaPad l).length / 64)) 8
theorem length_sha (l : List UInt8) : (sha l).length = 32 := length_bytes8 _ 8
theorem length_shaPad (l : List UInt8) : (shaPad l).length = l.length + 9 + padN l.length := by simp [shaPad, length_put64]; omega
theorem shaPad_mod (l : List UInt8) : (shaPad l).length % 64 = 0 := by rw [length_shaPad]; unfold padN; omega
/-- The bytes of an array value. -/
def keyA (l : List UInt8) : Array Value := (l.map BV).toArray
theorem keyA_size (l : List UInt8) : (keyA l).size = l.length := by simp [keyA]
theorem keyA_zero : keyA (List.replicate 32 0) = #[.int .u8 0, .int .u8 0, .int .u8 0, .int .u8 0, .int .u8 0, .int .u8 0, .int .u8 0, .int .u8 0, .int .u8 0, .int .u8 0, .int .u8 0, .int .u8 0, .int .u8 0, .int .u8 0, .int .u8 0, .int .u8 0, .int .u8 0, .int .u8 0, .int .u8 0, .int .u8 0, .int .u8 0, .int .u8 0, .int .u8 0, .int .u8 0, .int .u8 0, .int .u8 0, .int .u8 0, .int .u8 0, .int .u8 0, .int .u8 0, .int .u8 0, .int .u8 0] := by rfl
/-- Parts, each behind its length. -/
def flatP (ll : List (List UInt8)) : List UInt8 := ll.flatMap fun x => put64 x.length ++ x
def parts (ll : List (List UInt8)) : List UInt8 := sha (flatP ll)
theorem flatP_snoc (ll : List (List UInt8)) (x : List UInt8) : flatP (ll ++ [x]) = flatP ll ++ put64 x.length ++ x := by simp [flatP]
theorem flatP_take_le (ll : List (List UInt8)) (k : Nat) : (flatP (ll.take k)).length ≤ (flatP ll).length := by
  have h : flatP ll = flatP (ll.take k) ++ flatP (ll.drop k) := by unfold flatP; rw [← List.flatMap_append, List.take_append_drop]
  rw [h, List.length_append]; omega
theorem shaW_congr {f g : Nat → BitVec 32} (h : ∀ i, i < 16 → f i = g i) : ∀ i, shaW f i = shaW g i := by
  intro i
  induction i using Nat.strongRecOn with
  | _ i ih =>
    rw [shaW.eq_1 f i, shaW.eq_1 g i]
    by_cases hi : i < 16
    · rw [if_pos hi, if_pos hi, h i hi]
    · rw [if_neg hi, if_neg hi, ih (i - 16) (by omega), ih (i - 15) (by omega), ih (i - 7) (by omega), ih (i - 2) (by omega)]
theorem blkW_take (l : List UInt8) (i : Nat) (h : i < 16) : blkW (l.take 64) i = BitVec.ofNat 32 (beN ((l.drop (4 * i)).take 4)) := by
  unfold blkW; rw [List.drop_take, List.take_take, Nat.min_eq_left (by omega)]
/-- An array of n bytes. -/
def arrB (n : Nat) (f : Nat → UInt8) : Array Value := ((List.range n).map fun i => BV (f i)).toArray
theorem arrB_size (n : Nat) (f : Nat → UInt8) : (arrB n f).size = n := by simp [arrB]
theorem arrB_get (n : Nat) (f : Nat → UInt8) (i : Nat) (h : i < n) : (arrB n f)[i]? = some (BV (f i)) := by simp [arrB, h]
theorem arrB_one (n : Nat) (f : Nat → UInt8) : ∀ v ∈ (arrB n f).toList, v.oneCell' = true := by
  intro v hv; simp [arrB] at hv; obtain ⟨i, _, rfl⟩ := hv; rfl
theorem arrB_set (n : Nat) (f : Nat → UInt8) (i : Nat) (x : UInt8) : (arrB n f).setIfInBounds i (BV x) = arrB n (fun j => if j = i then x else f j) := by
  apply Array.ext_getElem?
  intro j
  simp only [arrB, Array.getElem?_setIfInBounds, List.getElem?_toArray, List.getElem?_map, List.size_toArray, List.length_map, List.length_range]
  by_cases h : j < n
  · by_cases e : i = j
    · subst e; simp [h]
    · simp [h, e, show ¬ j = i from fun e' => e e'.symm]
  · simp [h]; intro e; omega
theorem arrB_congr {n : Nat} {f g : Nat → UInt8} (h : ∀ i, i < n → f i = g i) : arrB n f = arrB n g := by
  unfold arrB; congr 1; apply List.map_congr_left; intro i hi; rw [h i (by simpa using hi)]
theorem keyA_arrB (l : List UInt8) : keyA l = arrB l.length (fun i => l.getD i 0) := by
  unfold keyA arrB; congr 1
  apply List.ext_getElem (by simp)
  intro i h1 h2; simp at h1; simp [h1]
theorem arrB_step {n k : Nat} {f : Nat → UInt8} : (arrB n (fun j => if j < k then f j else 0)).setIfInBounds k (BV (f k)) = arrB n (fun j => if j < k + 1 then f j else 0) := by
  rw [arrB_set]
  apply arrB_congr
  intro j _
  by_cases e : j = k
  · subst e; simp
  · by_cases e2 : j < k
    · simp [e, e2, show j < k + 1 from by omega]
    · simp [e, e2, show ¬ j < k + 1 from by omega]
theorem shaRounds_congr {s : W8} {k f g : Nat → BitVec 32} (h : ∀ i, f i = g i) (n : Nat) : shaRounds s k f n = shaRounds s k g n := by
  rw [show f = g from funext h]
end Go.Proofs.YtbgnfioggmkdeaaGreatDoor
namespace Go.Proofs.YtbgnfioggmkdeaaGreatDoor
set_option linter.unusedVariables false
set_option linter.unusedSimpArgs false
open Go Go.RowKit

theorem Sees.nil (w : World) (sz : Nat) : Sees w sz (.slice none 0 0) 0 [] := ⟨by simp, none, 0, rfl, by omega, by unfold maxLen; omega, fun _ => rfl, fun h => by omega⟩
/-- A slice is seen in every world that agrees with the old one on the blocks below B, if it lies there. -/
theorem Sees.of_block {w w' : World} {sz : Nat} {v : Value} {n : Nat} {xs : List Value} (h : Sees w sz v n xs)
    (hk : ∀ k, v.ownBlock = some k → w'.heap[k]? = w.heap[k]?) : Sees w' sz v n xs := by
  obtain ⟨hl, a, c, rfl, hc, hm, hnc, hb⟩ := h
  refine ⟨hl, a, c, rfl, hc, hm, hnc, fun hn => ?_⟩
  obtain ⟨b, o, rfl, hcell⟩ := hb hn
  exact ⟨b, o, rfl, fun j u hj => by rw [← hcell j u hj]; exact World.cell?_of_block (hk b rfl)⟩
theorem Sees.lt {w : World} {sz : Nat} {v : Value} {n : Nat} {xs : List Value} (h : Sees w sz v n xs) (hn : 0 < n * sz) : ∀ k, v.ownBlock = some k → k < w.heap.size := by
  obtain ⟨hl, a, c, rfl, hc, hm, hnc, hb⟩ := h
  obtain ⟨b, o, rfl, hcell⟩ := hb (Nat.pos_of_mul_pos_right hn)
  intro k hk
  simp [Value.ownBlock] at hk; subst hk
  have : ∃ u, xs[0]? = some u := ⟨xs[0]'(by omega), by simp⟩
  obtain ⟨u, hu⟩ := this
  exact World.block_lt_of_cell? w _ (hcell 0 u hu)
theorem Sees.below {w w' : World} {sz : Nat} {v : Value} {n : Nat} {xs : List Value} (h : Sees w sz v n xs) (hb : Below w.heap.size w w') (hs : 0 < sz) : Sees w' sz v n xs := by
  obtain ⟨hl, a, c, rfl, hc, hm, hnc, hcl⟩ := h
  by_cases hn : n = 0
  · subst hn; exact ⟨hl, a, c, rfl, hc, hm, hnc, fun h => by omega⟩
  · have h : Sees w sz (.slice a n c) n xs := ⟨hl, a, c, rfl, hc, hm, hnc, hcl⟩
    exact h.of_block fun k hk => hb.block k (h.lt (Nat.mul_pos (by omega) hs) k hk)
theorem Sees.alloc {w : World} {sz : Nat} {v : Value} {n : Nat} {xs : List Value} (h : Sees w sz v n xs) (hs : 0 < sz) (o : Obj) : Sees (w.alloc o) sz v n xs :=
  h.below ((Below.refl _ _).alloc (Nat.le_refl _) o) hs
theorem Sees.drewN {w : World} {sz : Nat} {v : Value} {n : Nat} {xs : List Value} (h : Sees w sz v n xs) (k : Nat) : Sees (w.drewN k) sz v n xs := h.of_block fun _ _ => rfl
theorem Sees.drew {w : World} {sz : Nat} {v : Value} {n : Nat} {xs : List Value} (h : Sees w sz v n xs) : Sees w.drew sz v n xs := h.of_block fun _ _ => rfl
/-- A store into another block. -/
theorem Sees.setCell {w : World} {sz : Nat} {v : Value} {n : Nat} {xs : List Value} (h : Sees w sz v n xs) (a : Addr) (u : Value) (hne : v.ownBlock ≠ some a.block) : Sees (w.setCell a u) sz v n xs :=
  h.of_block fun k hk => Below.heap_setCell _ _ _ _ (fun e => hne (by rw [hk, e]))
theorem Sees.grownBy {w w' : World} {sz : Nat} {v : Value} {n : Nat} {xs : List Value} {row : Option Nat} (h : Sees w sz v n xs) (hg : w.grownBy w' row) (hs : 0 < sz)
    (hne : v.ownBlock = none ∨ v.ownBlock ≠ row) : Sees w' sz v n xs := by
  obtain ⟨hl, a, c, rfl, hc, hm, hnc, hcl⟩ := h
  by_cases hn : n = 0
  · subst hn; exact ⟨hl, a, c, rfl, hc, hm, hnc, fun h => by omega⟩
  · have h : Sees w sz (.slice a n c) n xs := ⟨hl, a, c, rfl, hc, hm, hnc, hcl⟩
    exact h.of_block fun k hk => hg.block k (h.lt (Nat.mul_pos (by omega) hs) k hk) (by rw [← hk]; rcases hne with h0 | h0 <;> simp_all)
/-- What one owns one sees. -/
theorem sees_of_owns {w : World} {B : Nat} {e : TypeId} {sz : Nat} {v : Value} {n : Nat} {xs : List Value} (h : w.ownsRow B e sz v n xs) : Sees w sz v n xs := by
  obtain ⟨hl, h⟩ := h
  refine ⟨hl, ?_⟩
  rcases h with ⟨rfl, rfl⟩ | ⟨g, cap, cur, rfl, hg, hh, hn, hm, hs, hx⟩
  · exact ⟨none, 0, rfl, by omega, by unfold maxLen; omega, fun _ => rfl, fun h => by omega⟩
  · refine ⟨some ⟨g, 0, none⟩, cap, rfl, hn, hm, fun h => (by cases h), fun _ => ⟨g, 0, rfl, fun j u hj => ?_⟩⟩
    rw [Nat.zero_add, cell_of_row w g j cur e (0, 0) hh]
    rw [← hx, List.getElem?_take] at hj
    split at hj
    · simpa using hj
    · cases hj
theorem owns_mono {w : World} {B B' : Nat} {e : TypeId} {sz : Nat} {v : Value} {n : Nat} {xs : List Value} (h : w.ownsRow B e sz v n xs) (hB : B' ≤ B) : w.ownsRow B' e sz v n xs := by
  obtain ⟨hl, h⟩ := h
  refine ⟨hl, ?_⟩
  rcases h with h | ⟨g, cap, cur, rfl, hg, h⟩
  · exact .inl h
  · exact .inr ⟨g, cap, cur, rfl, by omega, h⟩
/-- Behind a call that leaves all that was there. -/
theorem owns_below {w w' : World} {B : Nat} {e : TypeId} {sz : Nat} {v : Value} {n : Nat} {xs : List Value} (h : w.ownsRow B e sz v n xs) (hb : Below w.heap.size w w') : w'.ownsRow B e sz v n xs := by
  have hlt := h.lt
  obtain ⟨hl, h⟩ := h
  refine ⟨hl, ?_⟩
  rcases h with h | ⟨g, cap, cur, rfl, hg, hh, r⟩
  · exact .inl h
  · exact .inr ⟨g, cap, cur, rfl, hg, by rw [hb.block g (hlt g rfl).2]; exact hh, r⟩
/-- A new block, seen whole. -/
theorem sees_new (w : World) (sz : Nat) (cs : Array Value) (t : TypeId) (n : Nat) (h : cs.size = n * sz) (hm : n ≤ maxLen) : Sees (w.alloc (.cells cs t)) sz (.slice (some ⟨w.heap.size, 0, none⟩) n n) n cs.toList :=
  ⟨by simpa using h, _, n, rfl, Nat.le_refl _, hm, fun h => (by cases h), fun _ => ⟨_, _, rfl, fun j u hj => by
    rw [Nat.zero_add, World.cell?_alloc_at cs t _ j rfl]; simpa using hj⟩⟩
/-- A block that is known whole, seen from its head. -/
theorem sees_block {w : World} {b : Nat} {cs : Array Value} {t : TypeId} {fr : Nat × Nat} (hb : w.heap[b]? = some (.cells cs t fr)) (sz n : Nat) (h : cs.size = n * sz) (hm : n ≤ maxLen) : Sees w sz (.slice (some ⟨b, 0, none⟩) n n) n cs.toList :=
  ⟨by simpa using h, _, n, rfl, Nat.le_refl _, hm, fun h => (by cases h), fun _ => ⟨_, _, rfl, fun j u hj => by
    rw [Nat.zero_add, cell_of_row w b j cs t fr hb]; simpa using hj⟩⟩

/-- append, what is appended being seen only. -/
theorem wpList_app {P : Program} {w : World} {ops : Array Oper} {rest : List Oper} {o : Oper} {a : Act} {Q : Exit → Act → World → Prop} (hgd : o.guard = none) (s x : Operand) (t : TypeId)
    (ho : o.op = .call { callee := .builtin .append, args := #[s, x], argTypes := #[t, t] })
    (base : Nat) (e : TypeId) (z : Value) (size bytes : Nat) (ht : P.underlying t = some (.slice e)) (hi : (P.info? e).map (fun i => (i.zero, i.size, i.bytes)) = some (some z, size, bytes))
    (hzs : z.cells.size = size) (hsz : 0 < size)
    (v : Value) (n : Nat) (xs : List Value) (hs : a.eval s = v) (hown : w.ownsRow base e size v n xs)
    (vx : Value) (m : Nat) (news : List Value) (hx : a.eval x = vx) (hsee : Sees w size vx m news) (h1 : ∀ u ∈ news, u.oneCell' = true)
    (hbytes : (n + m) * (bytes + 1) ≤ 140737488355328) (hbase : base ≤ w.heap.size)
    (h : ∀ v' w', w'.ownsRow base e size v' (n + m) (xs ++ news) → w.grownBy w' v.ownBlock → (v' = .slice none 0 0 ↔ v = .slice none 0 0 ∧ m = 0) → wpList P ops Q rest (a.put o.dst v') w') : wpList P ops Q (o :: rest) a w := by
  obtain ⟨i, hi, hz, hsize, hby⟩ := info_parts hi
  obtain ⟨hl, ad, c, rfl, hc, hm, hnc, hb⟩ := hsee
  have hb1 : (n + m) * (bytes + 1) = (n + m) * bytes + (n + m) := Nat.mul_succ _ _
  have h63 : n + m ≤ maxLen := by unfold maxLen; omega
  have hby2 : (n + m) * bytes ≤ 140737488355328 := by omega
  cases ad with
  | none =>
    have hm0 : m = 0 := by
      rcases Nat.eq_zero_or_pos m with h0 | h0
      · exact h0
      · obtain ⟨b, o, hbo, _⟩ := hb h0; cases hbo
    subst hm0
    have hn0 : news = [] := List.eq_nil_of_length_eq_zero (by simpa using hl)
    subst hn0
    obtain rfl := hnc rfl
    refine wpList_append_own_none hgd s x t ho base e i size ht hi v n xs hs hown hx (h v w ?_ ?_ ?_)
    · simpa using hown
    · exact ⟨rfl, rfl, rfl, Nat.le_refl _, fun _ _ _ => rfl⟩
    · simp
  | some ad =>
    refine wpList_append_own w hgd s x t ho base e i z size bytes ht hi hz hsize hby hzs hsz v n xs hs hown ad m c news hx hl ?_ h1 h63 hby2 hbase h
    intro j u hj
    rcases Nat.eq_zero_or_pos m with h0 | h0
    · subst h0
      have hn0 : news = [] := List.eq_nil_of_length_eq_zero (by simpa using hl)
      subst hn0; simp at hj
    · obtain ⟨b, o, hbo, hcell⟩ := hb h0
      cases hbo
      rw [show (⟨b, o, none⟩ : Addr).add j = ⟨b, o + j, none⟩ from by unfold Addr.add; split <;> simp_all]
      exact hcell j u hj

/-- Block g holds these cells and no others. -/
def Blk (w : World) (g : Nat) (cs : Array Value) (t : TypeId) : Prop := w.heap[g]? = some (.cells cs t (0, 0))
theorem Blk.lt {w : World} {g : Nat} {cs : Array Value} {t : TypeId} (h : Blk w g cs t) : g < w.heap.size := lt_of_block h
theorem Blk.new (w : World) (cs : Array Value) (t : TypeId) : Blk (w.alloc (.cells cs t)) w.heap.size cs t := heap_alloc_new w _
theorem Blk.alloc {w : World} {g : Nat} {cs : Array Value} {t : TypeId} (h : Blk w g cs t) (o : Obj) : Blk (w.alloc o) g cs t := (Below.heap_alloc w o g h.lt).trans h
theorem Blk.drew {w : World} {g : Nat} {cs : Array Value} {t : TypeId} (h : Blk w g cs t) : Blk w.drew g cs t := h
theorem Blk.drewN {w : World} {g : Nat} {cs : Array Value} {t : TypeId} (h : Blk w g cs t) (n : Nat) : Blk (w.drewN n) g cs t := h
theorem Blk.below {w w' : World} {g : Nat} {cs : Array Value} {t : TypeId} (h : Blk w g cs t) (hb : Below w.heap.size w w') : Blk w' g cs t := (hb.block g h.lt).trans h
theorem Blk.grownBy {w w' : World} {g : Nat} {cs : Array Value} {t : TypeId} {row : Option Nat} (h : Blk w g cs t) (hg : w.grownBy w' row) (hne : some g ≠ row) : Blk w' g cs t := (hg.block g h.lt hne).trans h
theorem Blk.set {w : World} {g : Nat} {cs : Array Value} {t : TypeId} (h : Blk w g cs t) (i : Nat) (v : Value) : Blk (w.setCell ⟨g, i, none⟩ v) g (cs.setIfInBounds i v) t := heap_setCell_same w g i cs t v h
theorem Blk.setCell {w : World} {g : Nat} {cs : Array Value} {t : TypeId} (h : Blk w g cs t) (a : Addr) (v : Value) (hne : g ≠ a.block) : Blk (w.setCell a v) g cs t := (heap_setCell_other w a g v hne).trans h
theorem Blk.cell {w : World} {g : Nat} {cs : Array Value} {t : TypeId} (h : Blk w g cs t) (i : Nat) : w.cell? ⟨g, i, none⟩ = cs[i]? := cell_of_row w g i cs t (0, 0) h
theorem Blk.free {w : World} {g : Nat} {cs : Array Value} {t : TypeId} (h : Blk w g cs t) (i : Nat) : w.frozen? ⟨g, i, none⟩ = false := frozen_of_row w g i cs t h

theorem Blk.new2 (w : World) (o : Obj) (cs : Array Value) (t : TypeId) : Blk ((w.alloc o).alloc (.cells cs t)) (w.heap.size + 1) cs t := by
  have := Blk.new (w.alloc o) cs t; rw [World.size_alloc] at this; exact this
theorem Blk.new3 (w : World) (o o' : Obj) (cs : Array Value) (t : TypeId) : Blk (((w.alloc o).alloc o').alloc (.cells cs t)) (w.heap.size + 1 + 1) cs t := by
  have := Blk.new2 (w.alloc o) o' cs t; rw [World.size_alloc] at this; exact this
theorem Blk.new4 (w : World) (o o' o'' : Obj) (cs : Array Value) (t : TypeId) : Blk ((((w.alloc o).alloc o').alloc o'').alloc (.cells cs t)) (w.heap.size + 1 + 1 + 1) cs t := by
  have := Blk.new3 (w.alloc o) o' o'' cs t; rw [World.size_alloc] at this; exact this
theorem grownBy_refl (w : World) (row : Option Nat) : w.grownBy w row := ⟨rfl, rfl, rfl, Nat.le_refl _, fun _ _ _ => rfl⟩
theorem grownBy_set {w0 w : World} {B : Nat} (h : w0.grownBy w (some B)) (i : Nat) (v : Value) : w0.grownBy (w.setCell ⟨B, i, none⟩ v) (some B) :=
  ⟨h.os, h.tape, h.output, by simp [World.setCell]; exact h.size, fun k hk hne => (heap_setCell_other w _ k v (fun e => hne (by rw [e]))).trans (h.block k hk hne)⟩
theorem grownBy_drewN {w0 w : World} {row : Option Nat} (h : w0.grownBy w row) (n : Nat) : w0.grownBy (w.drewN n) row := ⟨h.os, h.tape, h.output, h.size, h.block⟩
theorem grownBy_drew {w0 w : World} {row : Option Nat} (h : w0.grownBy w row) : w0.grownBy w.drew row := ⟨h.os, h.tape, h.output, h.size, h.block⟩
theorem some_ne {a b : Nat} (h : a ≠ b) : some a ≠ some b := fun e => h (Option.some.inj e)
theorem setCells_size (b : Nat) : ∀ (vs : List Value) (o : Nat) (w : World), (w.setCells b o vs).heap.size = w.heap.size
  | [], _, _ => rfl
  | v :: r, o, w => by
    show ((w.setCell ⟨b, o, none⟩ v).setCells b (o + 1) r).heap.size = _
    rw [setCells_size b r]; simp [World.setCell]
theorem setCells_blk (b : Nat) (t : TypeId) : ∀ (vs : List Value) (o : Nat) (w : World) (cs : Array Value), Blk w b cs t → o + vs.length ≤ cs.size →
    Blk (w.setCells b o vs) b (cs.toList.take o ++ vs ++ cs.toList.drop (o + vs.length)).toArray t
  | [], o, w, cs, h, hs => by
    show Blk w b _ t
    simpa using h
  | v :: r, o, w, cs, h, hs => by
    have := setCells_blk b t r (o + 1) (w.setCell ⟨b, o, none⟩ v) _ (h.set o v) (by simp at hs ⊢; omega)
    show Blk ((w.setCell ⟨b, o, none⟩ v).setCells b (o + 1) r) b _ t
    have e : (List.take (o + 1) (cs.setIfInBounds o v).toList ++ r ++ List.drop (o + 1 + r.length) (cs.setIfInBounds o v).toList) = (List.take o cs.toList ++ v :: r ++ List.drop (o + (v :: r).length) cs.toList) := by
      simp at hs
      apply List.ext_getElem?
      intro i
      simp only [Array.toList_setIfInBounds, List.getElem?_append, List.getElem?_take, List.getElem?_drop, List.length_append, List.length_take, List.length_set, List.length_cons, Array.length_toList, List.getElem?_set]
      rw [show min (o + 1) cs.size = o + 1 from by omega, show min o cs.size = o from by omega]
      by_cases h1 : i < o
      · simp [h1, show i < o + 1 from by omega, show i < o + 1 + r.length from by omega, show i < o + (r.length + 1) from by omega, show o ≠ i from by omega]
      · by_cases h2 : i = o
        · subst h2; simp [show i < cs.size from by omega]; omega
        · by_cases h3 : i < o + 1 + r.length
          · simp [h1, show ¬ i < o + 1 from by omega, h3, show i < o + (r.length + 1) from by omega]
            rw [show i - o = (i - (o + 1)) + 1 from by omega, List.getElem?_cons_succ]
          · simp [h3, show ¬ i < o + (r.length + 1) from by omega]
            rw [if_neg (by omega)]
            congr 1; omega
    rw [e] at this; exact this
theorem setCells_other (b : Nat) : ∀ (vs : List Value) (o : Nat) (w : World) (k : Nat), k ≠ b → (w.setCells b o vs).heap[k]? = w.heap[k]?
  | [], _, _, _, _ => rfl
  | v :: r, o, w, k, h => by
    show ((w.setCell ⟨b, o, none⟩ v).setCells b (o + 1) r).heap[k]? = _
    rw [setCells_other b r _ _ k h]; exact heap_setCell_other w _ k v h
theorem setCells_rest (b : Nat) : ∀ (vs : List Value) (o : Nat) (w : World), (w.setCells b o vs).os = w.os ∧ (w.setCells b o vs).tape = w.tape ∧ (w.setCells b o vs).output = w.output
  | [], _, _ => ⟨rfl, rfl, rfl⟩
  | v :: r, o, w => setCells_rest b r (o + 1) (w.setCell ⟨b, o, none⟩ v)
/-- A whole array (or struct) stored over a whole block. -/
theorem wpList_store_row {P : Program} {ops : Array Oper} {rest : List Oper} {op : Oper} {a : Act} {w : World} {Q : Exit → Act → World → Prop} (hgd : op.guard = none) (ty : TypeId) (x y : Operand) (ho : op.op = .store ty x y)
    (g : Nat) (cs cur : Array Value) (t : TypeId) (hx : a.eval x = .pointer (some ⟨g, 0, none⟩)) (hy : a.eval y = .agg cs)
    (hb : Blk w g cur t) (hs : cur.size = cs.size) (hi : (P.info? ty).map (·.size) = some cs.size) (h1 : ∀ v ∈ cs.toList, v.oneCell' = true)
    (h : ∀ w', w.grownBy w' (some g) → w'.heap.size = w.heap.size → Blk w' g cs t → wpList P ops Q rest (a.put op.dst undef) w') : wpList P ops Q (op :: rest) a w := by
  refine wpList_store_mid hgd ty x y ho g 0 cs hx hy (fun j hj => ?_) hi (by simpa using all_oneCell_toArray h1) (h _ ?_ (setCells_size _ _ _ _) ?_)
  · rw [Nat.zero_add, hb.cell, hb.free]; simp [hs, hj]
  · obtain ⟨e1, e2, e3⟩ := setCells_rest g cs.toList 0 w
    exact ⟨e1, e2, e3, by rw [setCells_size]; exact Nat.le_refl _, fun k _ hk => setCells_other g _ _ _ k (fun e => hk (by rw [e]))⟩
  · have := setCells_blk g t cs.toList 0 w cur hb (by simp [hs])
    rw [List.drop_of_length_le (by simp [hs])] at this; simpa using this

/-- The bytes l in a slice of the call's own (blocks from B on). -/
abbrev OwnB (w : World) (B : Nat) (v : Value) (l : List UInt8) : Prop := w.ownsRow B 5 1 v l.length (l.map BV)
theorem info_u8 : (Tryz.prog.info? 5).map (fun i => (i.zero, i.size, i.bytes)) = some (some (.int .u8 0), 1, 1) := by kernel_rfl
theorem one_BV (l : List UInt8) : ∀ u ∈ l.map BV, u.oneCell' = true := by
  intro u hu; obtain ⟨b, _, rfl⟩ := List.mem_map.1 hu; rfl
theorem ownB_nil (w : World) (B : Nat) : OwnB w B (.slice none 0 0) [] := World.ownsRow_nil w B _ 1
theorem seesB_lit (w : World) (cs : List Value) (t : TypeId) (l : List UInt8) (n : Nat) (h : cs = l.map BV) (hn : n = l.length) (hm : n ≤ maxLen) : SeesB (w.alloc (.cells cs.toArray t)) (.slice (some ⟨w.heap.size, 0, none⟩) n n) l := by
  subst h; subst hn
  have := sees_new w 1 (l.map BV).toArray t l.length (by simp) hm
  simpa using this
/-- append on bytes, in a call that began in the world W. -/
theorem appB {W w : World} {ops : Array Oper} {rest : List Oper} {o : Oper} {a : Act} {Q : Exit → Act → World → Prop} (hgd : o.guard = none) (s x : Operand)
    (ho : o.op = .call { callee := .builtin .append, args := #[s, x], argTypes := #[44, 44] })
    (v : Value) (l : List UInt8) (hs : a.eval s = v) (hown : OwnB w W.heap.size v l) (vx : Value) (lx : List UInt8) (hx : a.eval x = vx) (hsee : SeesB w vx lx)
    (hb : l.length + lx.length ≤ 70368744177664) (hW : Below W.heap.size W w)
    (h : ∀ v' w', OwnB w' W.heap.size v' (l ++ lx) → w.grownBy w' v.ownBlock → Below W.heap.size W w' → wpList Tryz.prog ops Q rest (a.put o.dst v') w') : wpList Tryz.prog ops Q (o :: rest) a w :=
  wpList_app hgd s x _ ho W.heap.size 5 (.int .u8 0) 1 1 Tryz.underlying44 info_u8 rfl (by decide) v _ _ hs hown vx _ _ hx hsee (one_BV lx) (by omega) hW.size
    (fun v' w' h1 h2 _ => h v' w' (by simpa [OwnB] using h1) h2 (hW.grown h2 hW.size (fun k hk => (hown.lt k hk).1)))
theorem ownB_kept {w w' : World} {B : Nat} {v : Value} {l : List UInt8} {row : Option Nat} (h : OwnB w B v l) (hg : w.grownBy w' row) (hne : v.ownBlock = none ∨ v.ownBlock ≠ row) : OwnB w' B v l := h.kept hg hne
/-- x[k:] and x[:k] on bytes. -/
theorem run_sliceB_from (a : Option Addr) (n c k : Nat) (hk : k ≤ n) (W : World) :
    (Instr.sliceAt 44 (.slice a n c) (some (.int .i64 k)) none none).run Tryz.prog W = .ok (.slice (if c = k then a else Option.map (fun x => x.add k) a) (n - k) (c - k)) W := by
  obtain ⟨i, hi, hz, hsize, hby⟩ := info_parts info_u8
  have h1 : (k : Int) ≤ (n : Int) := by omega
  simp [Instr.sliceAt, Instr.slice, Instr.sliceBounds, Instr.sliceBound, run_underlying Tryz.underlying44, sizeOf, typeInfo, hi, hsize, go_sem, h1, hk]
theorem run_sliceB_to (a : Option Addr) (n c k : Nat) (hk : k ≤ c) (W : World) :
    (Instr.sliceAt 44 (.slice a n c) none (some (.int .i64 k)) none).run Tryz.prog W = .ok (.slice (if c = 0 then a else Option.map (fun x => x.add 0) a) k c) W := by
  obtain ⟨i, hi, hz, hsize, hby⟩ := info_parts info_u8
  have h1 : (k : Int) ≤ (c : Int) := by omega
  simp [Instr.sliceAt, Instr.slice, Instr.sliceBounds, Instr.sliceBound, run_underlying Tryz.underlying44, sizeOf, typeInfo, hi, hsize, go_sem, h1, hk]
/-- A call that hands back bytes of its own and leaves all that was there. -/
def RetB (l : List UInt8) (w : World) (e : Ending) (w' : World) : Prop := ∃ v', e = .returned v' ∧ OwnB w' w.heap.size v' l ∧ Below w.heap.size w w'
theorem RetB.mk {l : List UInt8} {w w' : World} {v : Value} (h : OwnB w' w.heap.size v l) (hb : Below w.heap.size w w') : RetB l w (.returned v) w' := ⟨v, rfl, h, hb⟩
theorem owns_form {w : World} {B : Nat} {e : TypeId} {sz : Nat} {v : Value} {n : Nat} {xs : List Value} (h : w.ownsRow B e sz v n xs) : ∃ a c, v = .slice a n c ∧ n ≤ c ∧ c ≤ 9223372036854775807 := by
  rcases h.2 with ⟨rfl, rfl⟩ | ⟨g, cap, cur, rfl, hg, hh, hn, hm, hs, hx⟩
  · exact ⟨_, _, rfl, Nat.le_refl _, by omega⟩
  · exact ⟨_, _, rfl, hn, by unfold maxLen at hm; omega⟩
theorem sees_form {w : World} {sz : Nat} {v : Value} {n : Nat} {xs : List Value} (h : Sees w sz v n xs) : ∃ a c, v = .slice a n c ∧ n ≤ c ∧ c ≤ 9223372036854775807 := by
  obtain ⟨_, a, c, rfl, hn, hm, _⟩ := h
  exact ⟨_, _, rfl, hn, by unfold maxLen at hm; omega⟩
/-- A slice's length, read off the value. -/
def lenV : Value → Nat | .slice _ n _ => n | _ => 0
theorem addr_add (b o n : Nat) : (⟨b, o, none⟩ : Addr).add n = ⟨b, o + n, none⟩ := by unfold Addr.add; split <;> simp_all
/-- A part of what is seen. -/
theorem seesB_sub {w : World} {a : Option Addr} {n c : Nat} {l : List UInt8} (h : SeesB w (.slice a n c) l) (lo k : Nat) (hk : lo + k ≤ l.length) (hlo : lo < c) :
    SeesB w (.slice (Option.map (fun x => x.add lo) a) k (c - lo)) ((l.drop lo).take k) := by
  obtain ⟨hl, a', c', he, hc, hm, hnc, hb⟩ := h
  cases he
  have hlen : ((l.drop lo).take k).length = k := by simp; omega
  refine ⟨by simp, _, _, by rw [hlen], by rw [hlen]; omega, by omega, fun hn => ?_, fun hn => ?_⟩
  · cases a with
    | none => have := hnc rfl; omega
    | some a => cases hn
  · rw [hlen] at hn
    obtain ⟨b, o, rfl, hcell⟩ := hb (by omega)
    refine ⟨b, o + lo, by simp [addr_add], fun j u hj => ?_⟩
    have hjk : j < k := by
      have := (List.getElem?_eq_some_iff.1 hj).1
      simp at this; omega
    rw [Nat.add_assoc]
    apply hcell
    simp only [List.getElem?_map] at hj ⊢
    rw [List.getElem?_take, if_pos hjk, List.getElem?_drop] at hj
    exact hj
theorem seesB_open {w : World} {v : Value} {l : List UInt8} (h : SeesB w v l) (hn : 0 < l.length) : ∃ b o c, v = .slice (some ⟨b, o, none⟩) l.length c ∧ l.length ≤ c ∧ c ≤ 9223372036854775807 ∧ w.rangeAt b o (l.map BV) := by
  obtain ⟨hl, a, c, rfl, hc, hm, hnc, hb⟩ := h
  obtain ⟨b, o, rfl, hcell⟩ := hb hn
  exact ⟨b, o, c, rfl, hc, by unfold maxLen at hm; omega, hcell⟩
/-- A slice of slices of bytes, seen whole. -/
def SeesBB (w : World) (v : Value) (ll : List (List UInt8)) : Prop :=
  ∃ vs : List Value, Sees w 1 v ll.length vs ∧ ∀ (i : Nat) (l : List UInt8) (u : Value), ll[i]? = some l → vs[i]? = some u → SeesB w u l
theorem SeesBB.below {w w' : World} {v : Value} {ll : List (List UInt8)} (h : SeesBB w v ll) (hb : Below w.heap.size w w') : SeesBB w' v ll := by
  obtain ⟨vs, h1, h2⟩ := h
  exact ⟨vs, h1.below hb (by decide), fun i l u hl hu => (h2 i l u hl hu).below hb (by decide)⟩
/-- What is left behind the first k. -/
theorem seesB_drop {w : World} {a : Option Addr} {n c : Nat} {l : List UInt8} (h : SeesB w (.slice a n c) l) (k : Nat) (hk : k ≤ l.length) :
    SeesB w (.slice (if c = k then a else Option.map (fun x => x.add k) a) (l.length - k) (c - k)) (l.drop k) := by
  obtain ⟨hl, a', c', he, hc, hm, hnc, hb⟩ := h
  cases he
  have hlen : (l.drop k).length = l.length - k := by simp
  refine ⟨by simp, _, _, by rw [hlen], by rw [hlen]; omega, by omega, fun hn => ?_, fun hn => ?_⟩
  · by_cases e : c = k
    · omega
    · rw [if_neg e] at hn
      cases a with
      | none => have := hnc rfl; omega
      | some a => cases hn
  · rw [hlen] at hn
    obtain ⟨b, o, rfl, hcell⟩ := hb (by omega)
    rw [if_neg (by omega)]
    refine ⟨b, o + k, by simp [addr_add], fun j u hj => ?_⟩
    rw [Nat.add_assoc]
    apply hcell
    simp only [List.getElem?_map] at hj ⊢
    rw [List.getElem?_drop] at hj
    exact hj
end Go.Proofs.YtbgnfioggmkdeaaGreatDoor
namespace Go.Proofs.YtbgnfioggmkdeaaGreatDoor
set_option linter.unusedVariables false
set_option linter.unusedSimpArgs false
open Go Go.RowKit

set_option maxHeartbeats 400000 in
theorem get_ok (w : World) (v : Value) (l : List UInt8) (at_ n : Nat) (hv : SeesB w v l) (hn : 0 < n) (hn8 : n ≤ 8) (h : at_ + n ≤ l.length) :
    Calls Tryz.prog 185 #[v, .int .i64 at_, .int .i64 n] w fun e w' => e = .returned (.tuple #[.int .u64 (beN ((l.drop at_).take n)), .int .i64 0]) ∧ w' = w := by
  obtain ⟨hl, a, c, rfl, hc, hm, _, hb⟩ := hv
  obtain ⟨b, o, rfl, hcell⟩ := hb (by omega)
  clear hl hb
  have hm : c ≤ 9223372036854775807 := by unfold maxLen at hm; omega
  have HC := Lib.hid hcell; clear hcell
  have hac : at_ < c := by omega
  go_enter Tryz.func185, Tryz.ntmps185
  go_wp2
  go_loop [8, 32] (fun x i => ∃ k : Nat, k ≤ n ∧ i = .int .i64 k ∧ x = .int .u64 (beN ((l.drop at_).take k))) (fun _ i => n - (intOf i).toNat)
  case atStart => exact ⟨0, by omega, rfl, by simp [beN]⟩
  case round =>
    obtain ⟨k, hk, rfl, rfl⟩ := hrel
    by_cases hlt : k < n
    · have hcell : w.cell? ⟨b, o + at_ + k, none⟩ = some (BV (l[at_ + k]'(by omega))) := by
        have := HC.out (at_ + k) (BV (l[at_ + k]'(by omega))) (by simp; exact ⟨_, List.getElem?_eq_getElem (by omega), rfl⟩)
        rw [← this, Nat.add_assoc]
      have hsn := take_succ_drop l at_ k (by omega)
      have hX := beN_lt ((l.drop at_).take k)
      have hX2 : beN ((l.drop at_).take k) < 72057594037927936 := Nat.lt_of_lt_of_le hX (by
        have : ((l.drop at_).take k).length ≤ 7 := by simp; omega
        exact Nat.le_trans (Nat.pow_le_pow_right (by omega) this) (by decide))
      clear hX
      have hfin : beN ((l.drop at_).take (k + 1)) = beN ((l.drop at_).take k) * 256 + (l[at_ + k]'(by omega)).toNat := by rw [hsn, beN_snoc]
      clear hsn
      have HF := Lib.hid hfin; clear hfin
      have hb8 : ((l[at_ + k]'(by omega)).toNat : Int) < 256 := by have := (l[at_ + k]'(by omega)).toNat_lt; omega
      generalize beN ((l.drop at_).take k) = X at *
      generalize (l[at_ + k]'(by omega)) = cc at *
      have hor := or_byte X cc.toNat hX2 (by omega)
      go_wp2
      go_round
      case rel => exact ⟨k + 1, by omega, by go_num, by rw [HF.out]; go_num⟩
      case measure => simp [intOf]; omega
    · obtain rfl : k = n := by omega
      go_wp2
      go_ret2
      exact ⟨rfl, rfl⟩

set_option maxHeartbeats 400000 in
theorem getr_ok (w : World) (v : Value) (l : List UInt8) (at_ n : Nat) (hv : SeesB w v l) (hn : 0 < n) (hn8 : n ≤ 8) (h : at_ + n ≤ l.length) :
    Calls Tryz.prog 131 #[v, .int .i64 at_, .int .i64 n] w fun e w' => e = .returned (.tuple #[.int .u64 (beN ((l.drop at_).take n)), .int .i64 0]) ∧ w' = w := by
  obtain ⟨hl, a, c, rfl, hc, hm, _, hb⟩ := hv
  obtain ⟨b, o, rfl, hcell⟩ := hb (by omega)
  clear hl hb
  have hm : c ≤ 9223372036854775807 := by unfold maxLen at hm; omega
  have HC := Lib.hid hcell; clear hcell
  have hac : at_ < c := by omega
  go_enter Tryz.func131, Tryz.ntmps131
  go_wp2
  go_loop [8, 9] (fun x i => ∃ k : Nat, k ≤ n ∧ i = .int .i64 k ∧ x = .int .u64 (beN ((l.drop at_).take k))) (fun _ i => n - (intOf i).toNat)
  case atStart => exact ⟨0, by omega, rfl, by simp [beN]⟩
  case round =>
    obtain ⟨k, hk, rfl, rfl⟩ := hrel
    by_cases hlt : k < n
    · have hcell : w.cell? ⟨b, o + (at_ + k), none⟩ = some (BV (l[at_ + k]'(by omega))) := by
        have := HC.out (at_ + k) (BV (l[at_ + k]'(by omega))) (by simp; exact ⟨_, List.getElem?_eq_getElem (by omega), rfl⟩)
        exact this
      have hsn := take_succ_drop l at_ k (by omega)
      have hX := beN_lt ((l.drop at_).take k)
      have hX2 : beN ((l.drop at_).take k) < 72057594037927936 := Nat.lt_of_lt_of_le hX (by
        have : ((l.drop at_).take k).length ≤ 7 := by simp; omega
        exact Nat.le_trans (Nat.pow_le_pow_right (by omega) this) (by decide))
      clear hX
      have hfin : beN ((l.drop at_).take (k + 1)) = beN ((l.drop at_).take k) * 256 + (l[at_ + k]'(by omega)).toNat := by rw [hsn, beN_snoc]
      clear hsn
      have HF := Lib.hid hfin; clear hfin
      have hb8 : ((l[at_ + k]'(by omega)).toNat : Int) < 256 := by have := (l[at_ + k]'(by omega)).toNat_lt; omega
      generalize beN ((l.drop at_).take k) = X at *
      generalize (l[at_ + k]'(by omega)) = cc at *
      have hor := or_byte X cc.toNat hX2 (by omega)
      go_wp2
      go_round
      case rel => exact ⟨k + 1, by omega, by go_num, by rw [HF.out]; go_num⟩
      case measure => simp [intOf]; omega
    · obtain rfl : k = n := by omega
      go_wp2
      go_ret2
      exact ⟨rfl, rfl⟩

theorem Get32_ok (w : World) (v : Value) (l : List UInt8) (a : Int) (hv : SeesB w v l) (h0 : 0 ≤ a) (h : a + 4 ≤ l.length) :
    Calls Tryz.prog 183 #[v, .int .i64 a] w fun e w' => e = .returned (.tuple #[.int .u32 (beN ((l.drop a.toNat).take 4)), .int .i64 0]) ∧ w' = w := by
  obtain ⟨at_, rfl⟩ := Int.eq_ofNat_of_zero_le h0; rw [Int.toNat_natCast]
  have hX := beN_lt ((l.drop at_).take 4)
  have hX2 : beN ((l.drop at_).take 4) < 4294967296 := Nat.lt_of_lt_of_le hX (by
    have : ((l.drop at_).take 4).length ≤ 4 := by simp; omega
    exact Nat.le_trans (Nat.pow_le_pow_right (by omega) this) (by decide))
  clear hX
  generalize hXe : beN ((l.drop at_).take 4) = X at hX2 ⊢
  go_enter Tryz.func183, Tryz.ntmps183
  go_wp2_with fail
  refine (get_ok _ _ l at_ 4 hv (by omega) (by omega) (by omega)).mono ?_
  rintro e w' ⟨rfl, rfl⟩
  go_wp2_with fail
  go_ret2
  exact ⟨rfl, rfl⟩

theorem Get64_ok (w : World) (v : Value) (l : List UInt8) (a : Int) (hv : SeesB w v l) (h0 : 0 ≤ a) (h : a + 8 ≤ l.length) :
    Calls Tryz.prog 158 #[v, .int .i64 a] w fun e w' => e = .returned (.tuple #[.int .u64 (beN ((l.drop a.toNat).take 8)), .int .i64 0]) ∧ w' = w := by
  obtain ⟨at_, rfl⟩ := Int.eq_ofNat_of_zero_le h0; rw [Int.toNat_natCast]
  go_enter Tryz.func158, Tryz.ntmps158
  go_wp2_with fail
  refine (get_ok _ _ l at_ 8 hv (by omega) (by omega) (by omega)).mono ?_
  rintro e w' ⟨rfl, rfl⟩
  go_wp2_with fail
  go_ret2
  exact ⟨rfl, rfl⟩

theorem Get32r_ok (w : World) (v : Value) (l : List UInt8) (a : Int) (hv : SeesB w v l) (h0 : 0 ≤ a) (h : a + 4 ≤ l.length) :
    Calls Tryz.prog 147 #[v, .int .i64 a] w fun e w' => e = .returned (.tuple #[.int .u32 (beN ((l.drop a.toNat).take 4)), .int .i64 0]) ∧ w' = w := by
  obtain ⟨at_, rfl⟩ := Int.eq_ofNat_of_zero_le h0; rw [Int.toNat_natCast]
  have hX := beN_lt ((l.drop at_).take 4)
  have hX2 : beN ((l.drop at_).take 4) < 4294967296 := Nat.lt_of_lt_of_le hX (by
    have : ((l.drop at_).take 4).length ≤ 4 := by simp; omega
    exact Nat.le_trans (Nat.pow_le_pow_right (by omega) this) (by decide))
  clear hX
  generalize hXe : beN ((l.drop at_).take 4) = X at hX2 ⊢
  go_enter Tryz.func147, Tryz.ntmps147
  go_wp2_with fail
  refine (getr_ok _ _ l at_ 4 hv (by omega) (by omega) (by omega)).mono ?_
  rintro e w' ⟨rfl, rfl⟩
  go_wp2_with fail
  go_ret2
  exact ⟨rfl, rfl⟩

theorem Get64r_ok (w : World) (v : Value) (l : List UInt8) (a : Int) (hv : SeesB w v l) (h0 : 0 ≤ a) (h : a + 8 ≤ l.length) :
    Calls Tryz.prog 81 #[v, .int .i64 a] w fun e w' => e = .returned (.tuple #[.int .u64 (beN ((l.drop a.toNat).take 8)), .int .i64 0]) ∧ w' = w := by
  obtain ⟨at_, rfl⟩ := Int.eq_ofNat_of_zero_le h0; rw [Int.toNat_natCast]
  go_enter Tryz.func81, Tryz.ntmps81
  go_wp2_with fail
  refine (getr_ok _ _ l at_ 8 hv (by omega) (by omega) (by omega)).mono ?_
  rintro e w' ⟨rfl, rfl⟩
  go_wp2_with fail
  go_ret2
  exact ⟨rfl, rfl⟩

set_option maxHeartbeats 400000 in
theorem Put32_any (w : World) (v : Value) (l : List UInt8) (x : Int) (hv : SeesB w v l) (h0 : 0 ≤ x) (hn : x < 4294967296) (hl : l.length ≤ 70368744177600) :
    Calls Tryz.prog 109 #[v, .int .u32 x] w (RetB (l ++ put32 x.toNat) w) := by
  obtain ⟨n, rfl⟩ := Int.eq_ofNat_of_zero_le h0; rw [Int.toNat_natCast]
  go_enter Tryz.func109, Tryz.ntmps109
  go_wp2_with (at_builtin; first
    | (refine appB (W := w) rfl _ _ rfl v1 l rfl (hown1.alloc _) _ (put32 n) rfl (seesB_lit _ _ _ _ _ (put32_cells n (by omega)) rfl (by decide)) (by simp only [length_put32]; omega) (hb1.alloc hb1.size _) ?_; intro v2 w2 hown2 hgr2 hb2)
    | (refine appB (W := w) rfl _ _ rfl (.slice none 0 0) [] rfl (ownB_nil _ _) _ l rfl hv (by simp only [List.length_nil]; omega) (Below.refl _ _) ?_; intro v1 w1 hown1 hgr1 hb1))
  go_ret
  exact RetB.mk hown2 hb2

set_option maxHeartbeats 400000 in
theorem Put32r_any (w : World) (v : Value) (l : List UInt8) (x : Int) (hv : SeesB w v l) (h0 : 0 ≤ x) (hn : x < 4294967296) (hl : l.length ≤ 70368744177600) :
    Calls Tryz.prog 141 #[v, .int .u32 x] w (RetB (l ++ put32 x.toNat) w) := by
  obtain ⟨n, rfl⟩ := Int.eq_ofNat_of_zero_le h0; rw [Int.toNat_natCast]
  have m1 := mask_u32_255 ((n : Int) / 65536) (by omega) (by omega)
  have m2 := mask_u32_255 ((n : Int) / 256) (by omega) (by omega)
  have m3 := mask_u32_255 (n : Int) (by omega) hn
  go_enter Tryz.func141, Tryz.ntmps141
  go_wp2_with (at_builtin; first
    | (refine appB (W := w) rfl _ _ rfl v1 l rfl (hown1.alloc _) _ (put32 n) rfl (seesB_lit _ _ _ _ _ (put32_cells n (by omega)) rfl (by decide)) (by simp only [length_put32]; omega) (hb1.alloc hb1.size _) ?_; intro v2 w2 hown2 hgr2 hb2)
    | (refine appB (W := w) rfl _ _ rfl (.slice none 0 0) [] rfl (ownB_nil _ _) _ l rfl hv (by simp only [List.length_nil]; omega) (Below.refl _ _) ?_; intro v1 w1 hown1 hgr1 hb1))
  go_ret
  exact RetB.mk hown2 hb2

set_option maxHeartbeats 400000 in
theorem Put64_any (w : World) (v : Value) (l : List UInt8) (x : Int) (hv : SeesB w v l) (h0 : 0 ≤ x) (hn : x < 18446744073709551616) (hl : l.length ≤ 70368744177500) :
    Calls Tryz.prog 110 #[v, .int .u64 x] w (RetB (l ++ put64 x.toNat) w) := by
  have e1 : put64 x.toNat = put32 (x / 4294967296).toNat ++ put32 (x % 4294967296).toNat := by
    unfold put64; rw [show (x / 4294967296).toNat = x.toNat / 4294967296 from by omega, show (x % 4294967296).toNat = x.toNat % 4294967296 from by omega]
  rw [e1, ← List.append_assoc]; clear e1
  go_enter Tryz.func110, Tryz.ntmps110
  go_wp2_with fail
  refine (Put32_any _ _ l _ hv (by omega) (by omega) (by omega)).mono ?_
  rintro e w1 ⟨v1, rfl, hown1, hb1⟩
  go_wp2_with fail
  refine (Put32_any _ _ _ _ (sees_of_owns hown1) (by omega) (by omega) (by simp only [List.length_append, length_put32]; omega)).mono ?_
  rintro e w2 ⟨v2, rfl, hown2, hb2⟩
  go_wp2_with fail
  go_ret
  exact RetB.mk (owns_mono hown2 hb1.size) (hb1.trans (hb2.mono hb1.size))

set_option maxHeartbeats 400000 in
theorem Put64r_any (w : World) (v : Value) (l : List UInt8) (x : Int) (hv : SeesB w v l) (h0 : 0 ≤ x) (hn : x < 18446744073709551616) (hl : l.length ≤ 70368744177500) :
    Calls Tryz.prog 91 #[v, .int .u64 x] w (RetB (l ++ put64 x.toNat) w) := by
  have m1 := mask_u64_32 x h0 hn
  have e1 : put64 x.toNat = put32 (x / 4294967296).toNat ++ put32 (x % 4294967296).toNat := by
    unfold put64; rw [show (x / 4294967296).toNat = x.toNat / 4294967296 from by omega, show (x % 4294967296).toNat = x.toNat % 4294967296 from by omega]
  rw [e1, ← List.append_assoc]; clear e1
  go_enter Tryz.func91, Tryz.ntmps91
  go_wp2_with fail
  refine (Put32r_any _ _ l _ hv (by omega) (by omega) (by omega)).mono ?_
  rintro e w1 ⟨v1, rfl, hown1, hb1⟩
  go_wp2_with fail
  refine (Put32r_any _ _ _ _ (sees_of_owns hown1) (by omega) (by omega) (by simp only [List.length_append, length_put32]; omega)).mono ?_
  rintro e w2 ⟨v2, rfl, hown2, hb2⟩
  go_wp2_with fail
  go_ret
  exact RetB.mk (owns_mono hown2 hb1.size) (hb1.trans (hb2.mono hb1.size))

end Go.Proofs.YtbgnfioggmkdeaaGreatDoor
namespace Go.Proofs.YtbgnfioggmkdeaaGreatDoor
set_option linter.unusedVariables false
set_option linter.unusedSimpArgs false
open Go Go.RowKit
variable {P : Program} {md : Region.Mode} {ops : Array Oper} {C : World → Prop}

def wpAnyLQ (P : Program) (md : Region.Mode) (ops : Array Oper) (C : World → Prop) (n : Nat) (L : Array Bool → Act → Prop) : Nat → Array Bool → Act → Prop
  | 0, listed, a => L listed a
  | f + 1, listed, a =>
    Region.ready md ops listed ≠ [] ∧ ∀ i ∈ Region.ready md ops listed, i < n ∧ qOp P ops C i (wpAnyLQ P md ops C n L f (listed.setIfInBounds i true)) a

theorem wpAny_of_headQ {n g : Nat} {L : Array Bool → Act → Prop} {Q' : Exit → Act → World → Prop} (hL : ∀ listed a w, C w → L listed a → wpAny P md ops Q' g listed a w) :
    ∀ (f : Nat) (listed : Array Bool) (a : Act) (w : World), C w → wpAnyLQ P md ops C n L f listed a → wpAny P md ops Q' (f + g) listed a w
  | 0, listed, a, w, hw, h => by rw [Nat.zero_add]; exact hL _ _ _ hw h
  | f + 1, listed, a, w, hw, h => by
    rw [show f + 1 + g = (f + g) + 1 by omega]
    exact ⟨fun h0 => absurd h0 h.1, fun i hi => wpOp_of_qOp hw (fun a' w' hw' h' => wpAny_of_headQ hL f _ a' w' hw' h') (h.2 i hi).2⟩

theorem wpAnyLQ_first {n i : Nat} {oi : Oper} {v : Value} {L : Array Bool → Act → Prop} (hi : ops[i]? = some oi) (hsel : ∀ (j : Nat) (o : Oper) cs b, ops[j]? = some o → o.op ≠ .select cs b)
    (hs : Region.sinkB md ops n = true) (hc : Region.chainB md ops n = true) (hn : n < ops.size) (hin : i < n)
    (hdone : ∀ listed a, L listed a → ∀ j ∈ Region.ready md ops listed, n ≤ j) :
    ∀ (f : Nat) (listed : Array Bool) (a : Act), HeadInv md ops n listed →
      (∀ j oj, ops[j]? = some oj → j ≠ i → listed.getD j true = false → (∀ e ∈ oj.after, Region.binds md e = true → e.on ≠ i) → oi.apart ops oj = true) →
      i ∈ Region.ready md ops listed → YieldsIn P ops C oi v a →
      wpAnyLQ P md ops C n L f (listed.setIfInBounds i true) (a.put oi.dst v) → wpAnyLQ P md ops C n L (f + 1) listed a := by
  intro f
  induction f with
  | zero =>
    intro listed a inv _ hr hy H
    have hun := (mem_ready.1 hr).1
    refine ⟨fun h => (by rw [h] at hr; cases hr), fun j hj => ?_⟩
    have hjn : j < n := by
      rcases Nat.lt_or_ge j n with h | h
      · exact h
      · exact absurd hj (tail_waits hs hc hn inv _ i rfl hin hun j h)
    refine ⟨hjn, ?_⟩
    by_cases hji : j = i
    · subst hji; exact hy.qOp hi H
    · have := hdone _ _ H j (ready_mono hj hji)
      omega
  | succ f ih =>
    intro listed a inv hfree hr hy H
    have hun := (mem_ready.1 hr).1
    refine ⟨fun h => (by rw [h] at hr; cases hr), fun j hj => ?_⟩
    have hjn : j < n := by
      rcases Nat.lt_or_ge j n with h | h
      · exact h
      · exact absurd hj (tail_waits hs hc hn inv _ i rfl hin hun j h)
    refine ⟨hjn, ?_⟩
    by_cases hji : j = i
    · subst hji; exact hy.qOp hi H
    · have h1 := (H.2 j (ready_mono hj hji)).2
      obtain ⟨hjun, oj, hoj, hall⟩ := mem_ready.1 hj
      have hnot : ∀ e ∈ oj.after, Region.binds md e = true → e.on ≠ i := fun e he hb heq => by
        have h1 := hall e he hb
        rw [heq, getD_both hun] at h1
        cases h1
      have h2 := qOp_put hoj (hfree j oj hoj hji hjun hnot) (fun cs b => hsel i oi cs b hi) (fun cs b => hsel j oj cs b hoj) hy h1
      have hfree' : ∀ k ok, ops[k]? = some ok → k ≠ i → (listed.setIfInBounds j true).getD k true = false →
          (∀ e ∈ ok.after, Region.binds md e = true → e.on ≠ i) → oi.apart ops ok = true := fun k ok hk hki hun hno => by
        refine hfree k ok hk hki ?_ hno
        by_cases hjk : j = k
        · subst hjk; exact hjun
        · rw [getD_set_ne true hjk] at hun; exact hun
      refine qOp_mono (fun a' h3 => ih (listed.setIfInBounds j true) a' (inv.set hj hjn) hfree' (ready_mono hr (Ne.symm hji)) h3.1 ?_) h2
      rw [Array.setIfInBounds_comm _ _ hji]
      exact h3.2

theorem wpAnyLQ_lex {n g : Nat} {Lq : Act → Prop} (hsel : Region.noSelect ops = true) (hs : Region.sinkB md ops n = true) (hc : Region.chainB md ops n = true) (hn : n < ops.size) :
    ∀ (l : List Oper) (k : Nat) (listed : Array Bool) (a : Act), (∀ j, j < l.length → l[j]? = ops[k + j]?) → k + l.length = n → HeadInv md ops n listed →
    Region.lexHead md ops g l.length k listed = true → wpQuiet P ops C Lq l a →
    wpAnyLQ P md ops C n (fun listed' a' => Region.seqB md ops g n listed' = true ∧ Lq a') l.length listed a
  | [], k, listed, a, _, hk, _, hB, h => by
    have : k = n := by simpa using hk
    subst this
    exact ⟨by simpa [Region.lexHead] using hB, h⟩
  | o :: l, k, listed, a, hl, hk, inv, hB, h => by
    have h0 : ops[k]? = some o := by simpa using (hl 0 (by simp)).symm
    simp only [List.length_cons, Region.lexHead, Bool.and_eq_true] at hB
    obtain ⟨⟨hr, hf⟩, hB'⟩ := hB
    have hkn : k < n := by simp only [List.length_cons] at hk; omega
    have hr' : k ∈ Region.ready md ops listed := by simpa using hr
    have hst : qOp P ops C k (wpQuiet P ops C Lq l) a := by unfold qOp; simp only [h0]; exact h
    obtain ⟨v, hy, hK⟩ := yieldsIn_of_qOp h0 hst
    exact wpAnyLQ_first h0 (Region.noSelect_spec hsel) hs hc hn hkn (fun listed' a' hL => seqB_ready hL.1) l.length listed a inv (Region.free_spec h0 hf) hr' hy
      (wpAnyLQ_lex hsel hs hc hn l (k + 1) _ _ (fun j hj => by have := hl (j + 1) (by simp; omega); simpa [Nat.add_assoc, Nat.add_comm 1 j] using this) (by simp only [List.length_cons] at hk; omega) (inv.set hr' hkn) hB' hK)

/-- A region of written-out operations: the first n only read; the rest come in one forced order. -/
theorem wp_region_quiet_tail {id : Nat} {Q : Exit → Act → World → Prop} {a : Act} {w : World} {l : List Oper} (n : Nat) (hm : P.follows .mixedOrders = true) (hB : Region.lexTailB .any l.toArray n = true)
    (h : wpQuiet P l.toArray (fun w' => ∃ q, w' = w.drewN q) (fun a' => ∀ q, wpList P l.toArray Q (l.drop n) a' (w.drewN q)) (l.take n) a) : (Code.region id l.toArray true).wp P Q a w := by
  simp only [Region.lexTailB, Bool.and_eq_true, decide_eq_true_eq] at hB
  obtain ⟨⟨⟨⟨hsel, hn⟩, hs⟩, hc⟩, hlex⟩ := hB
  have hn' : n < l.length := by simpa using hn
  have htl : (l.take n).length = n := by simp; omega
  have hdl : (l.drop n).length = l.toArray.size - n := by simp
  have inv0 : HeadInv .any l.toArray n (Array.replicate l.toArray.size false) :=
    ⟨by simp, fun j oj _ hl => (by rw [getD_replicate_false] at hl; cases hl), fun t _ ht => getD_in (by simpa using ht) (getD_replicate_false _ _)⟩
  have H := wpAnyLQ_lex (md := .any) (g := l.toArray.size - n) hsel hs hc hn (l.take n) 0 _ a (fun j hj => by
    have hj' : j < n := by rw [htl] at hj; exact hj
    simp [hj']) (by simpa using htl) inv0 (by rw [htl]; exact hlex) h
  refine wp_region_any hm ?_
  have := wpAny_of_headQ (Q' := Q) (g := l.toArray.size - n) (fun listed a' w' hw' hL => by
    obtain ⟨q, rfl⟩ := hw'
    have := wpAny_of_seq (md := .any) (Q' := Q) (l.drop n) n listed a' (w.drewN q) (fun j => by simp [List.getElem?_drop]) (by rw [hdl]; exact hL.1) (hL.2 q)
    rwa [hdl] at this) _ _ _ { w with drawn := w.drawn + 1 } ⟨1, rfl⟩ H
  rw [htl, show n + (l.toArray.size - n) = l.toArray.size by omega] at this
  exact this

/-- A whole array (or struct) loaded out of a whole block, in such a head. -/
theorem wpQuiet_load_row {ops : Array Oper} {C : World → Prop} {rest : List Oper} {o : Oper} {a : Act} {Q : Act → Prop} (hgd : o.guard = none) (ty : TypeId) (x : Operand) (ho : o.op = .load ty x)
    (g : Nat) (hx : a.eval x = .pointer (some ⟨g, 0, none⟩)) (t : TypeId) (cs : Array Value) (fr : Nat × Nat) (d : TypeDesc) (hg : ∀ w', C w' → w'.heap[g]? = some (.cells cs t fr))
    (hu : P.underlying ty = some d) (hd : (match d with | .struct _ | .array _ _ => true | _ => false) = true) (hi : (P.info? ty).map (·.size) = some cs.size)
    (h : wpQuiet P ops C Q rest (a.put o.dst (.agg cs))) : wpQuiet P ops C Q (o :: rest) a := by
  unfold wpQuiet
  have hw : Region.wanted o (yielded ops a.tmps) = true := by simp [Region.wanted, hgd]
  rw [if_pos hw]
  refine ⟨.agg cs, fun w' hw' => ?_, h⟩
  unfold Oper.quietAt execOp
  have hg' := hg w' hw'
  simp only [ho, hx, Instr.loadAt, Instr.sureAddr, Sem.run_bind, Sem.run_pure, Result.andThen_ok, run_loadVar_row w' g t ty cs fr d hg' hu hd hi, Oper.quietUpon]
  simp

/-- A quiet call in a region behind one that drew. -/
theorem quiet_add_same {f : FuncId} {args : Array Value} {w : World} {a n : Nat} {v : Value}
    (h : Calls P f args (w.drewN (a + n)) fun e w' => e = .returned v ∧ w' = w.drewN (a + n)) :
    Calls P f args (w.drewN (a + n)) fun e w'' => e = .returned v ∧ ∃ m, w'' = w.drewN (a + m) :=
  h.mono fun _ _ ⟨he, hm⟩ => ⟨he, n, hm⟩
end Go.Proofs.YtbgnfioggmkdeaaGreatDoor
namespace Go.Proofs.YtbgnfioggmkdeaaGreatDoor
set_option linter.unusedVariables false
set_option linter.unusedSimpArgs false
open Go Go.RowKit
variable {P : Program} {md : Region.Mode} {ops : Array Oper} {C : World → Prop} {Q : Exit → Act → World → Prop}

def valueOp : Op → Bool
  | .nilCheck _ | .move _ | .assign _ | .load .. | .binOp .. | .unOp .. | .convert .. | .slice .. | .fieldAddr .. | .field .. | .indexAddr .. | .index .. | .extract .. | .sliceToArrayPointer .. => true
  | .call { callee := .builtin .len, .. } => true
  | _ => false

theorem run_value (s : Sem Value) (w : World) {n : Next} {w' : World} (h : Sem.run P (do pure (Next.value (← s))) w = .ok n w') : ∃ u, n = .value u := by
  have : Sem.run P (s.bind fun v => Sem.pure (Next.value v)) w = .ok n w' := h
  rw [show (s.bind fun v => Sem.pure (Next.value v)) = (s >>= fun v => pure (Next.value v)) from rfl, Sem.run_bind] at this
  cases hr : Sem.run P s w with
  | ok u w2 => rw [hr] at this; simp [Result.andThen] at this; exact ⟨u, this.1.symm⟩
  | halt x w2 => rw [hr] at this; simp [Result.andThen] at this

theorem valueOp_run {o : Oper} (h : valueOp o.op = true) {ev : Operand → Value} {w w' : World} {n : Next} (hr : (execOp ev o).run P w = .ok n w') : ∃ u, n = .value u := by
  unfold execOp at hr
  by_cases hn : ∃ x, o.op = .nilCheck x
  · obtain ⟨x, hx⟩ := hn
    rw [hx] at hr
    simp only at hr
    have hpan : ∀ (n : Next) (w' : World), ((runtimePanic .nilDeref : Sem Next).run P w = .ok n w') → False := fun n w' h => by simp [runtimePanic, goPanic] at h
    have hval : ∀ (v : Value) (n : Next) (w' : World), ((pure (Next.value v) : Sem Next).run P w = .ok n w') → ∃ u, n = .value u := fun v n w' h => by simp at h; exact ⟨_, h.1.symm⟩
    generalize ev x = v at hr
    split at hr
    · exact (hpan _ _ hr).elim
    · exact (hpan _ _ hr).elim
    · exact (hpan _ _ hr).elim
    · split at hr
      · exact (hpan _ _ hr).elim
      · simp only [Sem.run_bind] at hr
        cases h1 : Sem.run P program w with
        | halt x w1 => rw [h1] at hr; simp [Result.andThen] at hr
        | ok p1 w1 =>
          rw [h1] at hr
          simp only [Result.andThen_ok] at hr
          revert hr
          generalize Sem.run P (nilAhead _ _ _ _) w1 = r2
          intro hr
          cases r2 with
          | halt x w2 => simp [Result.andThen] at hr
          | ok b w2 =>
            simp only [Result.andThen_ok] at hr
            split at hr
            · simp [unsupported, Result.andThen] at hr
            · simp at hr; exact ⟨_, hr.1.symm⟩
      · exact hval _ _ _ hr
    · exact hval _ _ _ hr
  cases ho : o.op <;> rw [ho] at h hr <;> simp only [valueOp] at h <;> simp only at hr
  all_goals first
    | exact run_value _ _ hr
    | (simp at hr; exact ⟨_, hr.1.symm⟩)
    | (cases h; done)
    | (exact (hn ⟨_, ho⟩).elim)
    | skip
  rename_i c
  obtain ⟨cal, args, tys⟩ := c
  cases cal with
  | builtin b =>
    cases b <;> simp only at h <;> first | (cases h; done) | skip
    simp only [resolve, Sem.run_bind, Sem.run_pure, Result.andThen_ok, invoke, builtin] at hr
    cases hl : Sem.run P (Builtin.len_ tys o.type (Array.map ev args)) w with
    | ok u w2 => rw [hl] at hr; simp at hr; exact ⟨u, hr.1.symm⟩
    | halt x w2 => rw [hl] at hr; simp [Result.andThen] at hr
  | value f => simp at h
  | invoke r n => simp at h

/-- Such an operation that is quiet in a class yields its value in every world of the class. -/
theorem yieldsIf_of_quiet {o : Oper} {a : Act} {K : Act → Prop} (hv : valueOp o.op = true) (h : if Region.wanted o (yielded ops a.tmps) then o.quiet P a C K else K (a.put o.dst undef)) :
    ∃ v, YieldsIf P ops C o v a ∧ K (a.put o.dst v) := by
  by_cases hw : Region.wanted o (yielded ops a.tmps) = true
  · rw [if_pos hw] at h
    obtain ⟨v, h1, h2⟩ := h
    refine ⟨v, .inl ⟨hw, fun w hC => ?_⟩, h2⟩
    have h3 := h1 w hC
    unfold Oper.quietAt at h3
    cases hr : (execOp a.eval o).run P w with
    | ok n w' =>
      obtain ⟨u, rfl⟩ := valueOp_run hv hr
      rw [hr] at h3
      obtain ⟨e1, e2⟩ := h3
      rw [e1, e2]
    | halt x w' => rw [hr] at h3; exact h3.elim
  · rw [if_neg hw] at h
    exact ⟨undef, .inr ⟨by simpa using hw, rfl⟩, h⟩

def pickOps (l : List Oper) (js : List Nat) : List Oper := js.flatMap fun j => (l.drop j).take 1

/-- Behind the operation that comes next: the class, and the rest; a way out as before. -/
def phPost (K : Act → World → Prop) (Q : Exit → Act → World → Prop) : Exit → Act → World → Prop
  | .normal, a, w => K a w
  | e, a, w => Q e a w

/-- The walk by a schedule. -/
def wpPh (P : Program) (l : List Oper) (C : World → Prop) (Q : Exit → Act → World → Prop) (fin : List Nat) : List (List Nat × Nat) → Act → World → Prop
  | [], a, w => wpQuiet P l.toArray C (fun a' => Q .normal a' w) (pickOps l fin) a
  | (qs, i) :: r, a, w => wpQuiet P l.toArray C (fun a' => wpList P l.toArray (phPost (fun a'' w'' => C w'' ∧ wpPh P l C Q fin r a'' w'') Q) (pickOps l [i]) a' w) (pickOps l qs) a

theorem wpPh_cons {l : List Oper} {fin qs : List Nat} {i : Nat} {r : List (List Nat × Nat)} {a : Act} {w : World}
    (h : wpQuiet P l.toArray C (fun a' => wpList P l.toArray (phPost (fun a'' w'' => C w'' ∧ wpPh P l C Q fin r a'' w'') Q) (pickOps l [i]) a' w) (pickOps l qs) a) : wpPh P l C Q fin ((qs, i) :: r) a w := h
theorem wpPh_nil {l : List Oper} {fin : List Nat} {a : Act} {w : World} (h : wpQuiet P l.toArray C (fun a' => Q .normal a' w) (pickOps l fin) a) : wpPh P l C Q fin [] a w := h
theorem phPost_normal {K : Act → World → Prop} {a : Act} {w : World} (h : K a w) : phPost K Q .normal a w := h
def quietB (md : Region.Mode) (ops : Array Oper) : List Nat → (Array Bool → Bool) → Array Bool → Bool
  | [], k, listed => k listed
  | j :: js, k, listed => (match ops[j]? with | some o => valueOp o.op | none => false) && (Region.ready md ops listed).contains j && Region.free md ops listed j && quietB md ops js k (listed.setIfInBounds j true)
def phB (md : Region.Mode) (ops : Array Oper) (fin : List Nat) : List (List Nat × Nat) → Array Bool → Bool
  | [], listed => quietB md ops fin (fun l => (Region.ready md ops l).isEmpty) listed
  | (qs, i) :: r, listed => quietB md ops qs (fun l => decide (Region.ready md ops l = [i]) && phB md ops fin r (l.setIfInBounds i true)) listed
def phLen (fin : List Nat) : List (List Nat × Nat) → Nat
  | [] => fin.length
  | (qs, _) :: r => qs.length + (1 + phLen fin r)

theorem pickOps_cons (l : List Oper) (j : Nat) (js : List Nat) : pickOps l (j :: js) = (l.drop j).take 1 ++ pickOps l js := by simp [pickOps]
theorem pickOps_some {l : List Oper} {j : Nat} {o : Oper} (h : l[j]? = some o) : (l.drop j).take 1 = [o] := by
  have hj := (List.getElem?_eq_some_iff.1 h).1
  rw [List.take_one, List.head?_drop, h]; rfl

theorem put_defers (a : Act) (d : Option Tmp) (v : Value) : (a.put d v).defers = a.defers := by cases d <;> rfl
/-- A world of a class, with its proof. -/
structure InC (S : World → Prop) where
  u : World
  has : S u
theorem wpAnyH_quiets {l : List Oper} (hsel : Region.noSelect l.toArray = true) (hQ : ∀ c (a a' : Act) w, a'.defers = a.defers → Q (.panic c) a' w → Q (.panic c) a w) {k : Array Bool → Bool} {f : Nat} {w : World} (hC : C w) {L : Act → Prop}
    (hk : ∀ listed a, k listed = true → L a → wpAnyH P .any l.toArray Q C f listed a w) : ∀ (js : List Nat) (listed : Array Bool) (a : Act),
    quietB .any l.toArray js k listed = true → wpQuiet P l.toArray C L (pickOps l js) a → wpAnyH P .any l.toArray Q C (js.length + f) listed a w
  | [], listed, a, hB, h => by
    rw [List.length_nil, Nat.zero_add]
    exact hk listed a hB h
  | j :: js, listed, a, hB, h => by
    simp only [quietB, Bool.and_eq_true] at hB
    obtain ⟨⟨⟨h1, h2⟩, h3⟩, h4⟩ := hB
    cases ho : l[j]? with
    | none => simp [ho] at h1
    | some o =>
      simp only [List.getElem?_toArray, ho] at h1
      rw [pickOps_cons, pickOps_some ho, List.singleton_append] at h
      obtain ⟨v, hy, hK⟩ := yieldsIf_of_quiet (ops := l.toArray) h1 h
      rw [List.length_cons, show js.length + 1 + f = (js.length + f) + 1 from by omega]
      exact wpAnyH_take (i := j) (by simpa using ho) hsel h3 h2 (fun c a w => hQ c _ _ w (put_defers a _ _)) hy hC (wpAnyH_quiets hsel hQ hC hk js _ _ h4 hK)

theorem wp_phPost {o : Oper} {a : Act} {w : World} {K K' : Act → World → Prop} (h : o.wp P a w K (phPost K' Q)) : o.wp P a w K Q := by
  unfold Oper.wp at *
  generalize (execOp a.eval o).run P w = r at *
  cases r with
  | ok n w' =>
    cases n <;> simp only [Oper.upon] at h ⊢ <;> first | exact h | skip
  | halt x w' => cases x <;> simp only [Oper.upon] at h ⊢ <;> exact h
theorem wpAnyH_ph {l : List Oper} (hsel : Region.noSelect l.toArray = true) (hQ : ∀ c (a a' : Act) w, a'.defers = a.defers → Q (.panic c) a' w → Q (.panic c) a w) (fin : List Nat) : ∀ (r : List (List Nat × Nat)) (listed : Array Bool) (a : Act) (w : World), C w →
    phB .any l.toArray fin r listed = true → wpPh P l C Q fin r a w → wpAnyH P .any l.toArray Q C (phLen fin r) listed a w
  | [], listed, a, w, hC, hB, h => by
    have := wpAnyH_quiets (f := 0) hsel hQ hC (L := fun a' => Q .normal a' w) (k := fun l' => (Region.ready .any l.toArray l').isEmpty)
      (fun listed a hk hL => ⟨by simpa using hk, hL⟩) fin listed a hB h
    simpa [phLen] using this
  | (qs, i) :: r, listed, a, w, hC, hB, h => by
    refine wpAnyH_quiets hsel hQ hC (fun listed a hk hL => ?_) qs listed a hB h
    simp only [Bool.and_eq_true, decide_eq_true_eq] at hk
    rw [show 1 + phLen fin r = phLen fin r + 1 from by omega]
    refine wpAnyH_all hk.1 (by simp) (fun j hj => ?_)
    have hji : j = i := by simpa using hj
    subst hji
    have hi : ∃ o, l[j]? = some o := by
      have : j ∈ Region.ready .any l.toArray listed := by rw [hk.1]; simp
      obtain ⟨_, o, ho, _⟩ := mem_ready.1 this
      exact ⟨o, by simpa using ho⟩
    obtain ⟨o, ho⟩ := hi
    rw [pickOps_cons, pickOps_some ho] at hL
    simp only [pickOps, List.flatMap_nil, List.append_nil] at hL
    have ho' : l.toArray[j]? = some o := by simpa using ho
    unfold wpOp
    rw [ho']
    simp only [wpList] at hL
    split at hL
    · rename_i hw
      simp only [hw, if_true]
      rcases hL with h1 | ⟨h1, h2⟩
      · exact .inl (wp_phPost (Oper.wp_mono (fun a' w' hK => ⟨hK.1, wpAnyH_ph hsel hQ fin r _ a' w' hK.1 hk.2 hK.2⟩) h1))
      · exact .inr ⟨h1, h2⟩
    · rename_i hw
      simp only [hw]
      exact ⟨hL.1, wpAnyH_ph hsel hQ fin r _ _ _ hL.1 hk.2 hL.2⟩

theorem wp_region_ph {id : Nat} {a : Act} {w : World} {l : List Oper} (sched : List (List Nat × Nat)) (fin : List Nat) (hm : P.follows .mixedOrders = true)
    (hB : (Region.noSelect l.toArray && decide (phLen fin sched = l.length) && phB .any l.toArray fin sched (Array.replicate l.toArray.size false)) = true)
    (hQ : ∀ c (a a' : Act) w, a'.defers = a.defers → Q (.panic c) a' w → Q (.panic c) a w) (hC : C w.drew)
    (h : wpPh P l C Q fin sched a w.drew) : (Code.region id l.toArray true).wp P Q a w := by
  simp only [Bool.and_eq_true, decide_eq_true_eq] at hB
  obtain ⟨⟨hsel, hlen⟩, hB⟩ := hB
  refine wp_region_any hm (wpAny_of_held (S := C) _ _ _ _ ?_)
  have := wpAnyH_ph hsel hQ fin sched _ a _ hC hB h
  rw [hlen] at this
  simpa using this
end Go.Proofs.YtbgnfioggmkdeaaGreatDoor
namespace Go.Proofs.YtbgnfioggmkdeaaGreatDoor
set_option linter.unusedVariables false
set_option linter.unusedSimpArgs false
open Go Go.RowKit
variable {P : Program} {C : World → Prop} {Q : Exit → Act → World → Prop}

inductive Tr where
  | fin (qs : List Nat)
  | step (qs : List Nat) (alts : Tr)
  | alt (i : Nat) (s rest : Tr)
  | nil

def wpTr (P : Program) (l : List Oper) (C : World → Prop) (Q : Exit → Act → World → Prop) : Tr → Act → World → Prop
  | .fin qs, a, w => wpQuiet P l.toArray C (fun a' => Q .normal a' w) (pickOps l qs) a
  | .step qs alts, a, w => wpQuiet P l.toArray C (fun a' => wpTr P l C Q alts a' w) (pickOps l qs) a
  | .alt i s rest, a, w => wpList P l.toArray (phPost (fun a'' w'' => C w'' ∧ wpTr P l C Q s a'' w'') Q) (pickOps l [i]) a w ∧ wpTr P l C Q rest a w
  | .nil, _, _ => True
def Tr.heads : Tr → List Nat
  | .alt i _ rest => i :: rest.heads
  | _ => []
def Tr.reg : Tr → Bool
  | .fin _ | .step _ _ => true
  | _ => false
def trB (ops : Array Oper) : Tr → Nat → Array Bool → Bool
  | .fin qs, n, listed => decide (qs.length ≤ n) && quietB .any ops qs (fun l => (Region.ready .any ops l).isEmpty) listed
  | .step qs alts, n, listed => decide (qs.length < n) && !alts.heads.isEmpty && !alts.reg && quietB .any ops qs (fun l => decide (Region.ready .any ops l = alts.heads) && trB ops alts (n - qs.length) l) listed
  | .alt i s rest, n, listed => s.reg && !rest.reg && trB ops s (n - 1) (listed.setIfInBounds i true) && trB ops rest n listed
  | .nil, _, _ => true
theorem wpTr_fin {l : List Oper} {qs : List Nat} {a : Act} {w : World} (h : wpQuiet P l.toArray C (fun a' => Q .normal a' w) (pickOps l qs) a) : wpTr P l C Q (.fin qs) a w := h
theorem wpTr_step {l : List Oper} {qs : List Nat} {t : Tr} {a : Act} {w : World} (h : wpQuiet P l.toArray C (fun a' => wpTr P l C Q t a' w) (pickOps l qs) a) : wpTr P l C Q (.step qs t) a w := h
theorem wpTr_alt {l : List Oper} {i : Nat} {s t : Tr} {a : Act} {w : World} (h : wpList P l.toArray (phPost (fun a'' w'' => C w'' ∧ wpTr P l C Q s a'' w'') Q) (pickOps l [i]) a w) (h' : wpTr P l C Q t a w) : wpTr P l C Q (.alt i s t) a w := ⟨h, h'⟩
theorem wpTr_one {l : List Oper} {i : Nat} {s : Tr} {a : Act} {w : World} (h : wpList P l.toArray (phPost (fun a'' w'' => C w'' ∧ wpTr P l C Q s a'' w'') Q) (pickOps l [i]) a w) : wpTr P l C Q (.alt i s .nil) a w := ⟨h, trivial⟩

theorem wpAnyH_tr {l : List Oper} (hsel : Region.noSelect l.toArray = true) (hQ : ∀ c (a a' : Act) w, a'.defers = a.defers → Q (.panic c) a' w → Q (.panic c) a w) : ∀ (t : Tr),
    (t.reg = true → ∀ (n : Nat) (listed : Array Bool) (a : Act) (w : World), C w → trB l.toArray t n listed = true → wpTr P l C Q t a w → wpAnyH P .any l.toArray Q C n listed a w) ∧
    (t.reg = false → ∀ (n : Nat) (listed : Array Bool) (a : Act) (w : World), trB l.toArray t (n + 1) listed = true → (∀ j ∈ t.heads, j ∈ Region.ready .any l.toArray listed) → wpTr P l C Q t a w → ∀ j ∈ t.heads,
      wpOp P l.toArray Q j (fun a' w' => C w' ∧ wpAnyH P .any l.toArray Q C n (listed.setIfInBounds j true) a' w') a w)
  | .fin qs => ⟨fun _ n listed a w hC hB h => by
      simp only [trB, Bool.and_eq_true, decide_eq_true_eq] at hB
      have := wpAnyH_quiets (f := n - qs.length) hsel hQ hC (L := fun a' => Q .normal a' w) (k := fun l' => (Region.ready .any l.toArray l').isEmpty)
        (fun listed a hk hL => wpAnyH_done (by simpa using hk) hL _) qs listed a hB.2 h
      rwa [show qs.length + (n - qs.length) = n from by omega] at this, fun h => nomatch h⟩
  | .nil => ⟨fun h => (nomatch h), fun _ n listed a w _ _ _ j hj => nomatch hj⟩
  | .step qs t => ⟨fun _ n listed a w hC hB h => by
      simp only [trB, Bool.and_eq_true, decide_eq_true_eq, Bool.not_eq_true'] at hB
      obtain ⟨⟨⟨hlt, hne⟩, hreg⟩, hq⟩ := hB
      obtain ⟨m, hm⟩ : ∃ m, n - qs.length = m + 1 := ⟨n - qs.length - 1, by omega⟩
      have := wpAnyH_quiets (f := m + 1) hsel hQ hC (L := fun a' => wpTr P l C Q t a' w) (k := fun l' => decide (Region.ready .any l.toArray l' = t.heads) && trB l.toArray t (n - qs.length) l')
        (fun listed a hk hL => by
          simp only [Bool.and_eq_true, decide_eq_true_eq] at hk
          rw [hm] at hk
          exact wpAnyH_all hk.1 (fun h0 => by rw [h0] at hne; simp at hne) ((wpAnyH_tr hsel hQ t).2 hreg m listed a w hk.2 (fun j hj => by rw [hk.1]; exact hj) hL)) qs listed a hq h
      rwa [show qs.length + (m + 1) = n from by omega] at this, fun h => nomatch h⟩
  | .alt i s rest => ⟨fun h => (nomatch h), fun _ n listed a w hB hr h j hj => by
      simp only [trB, Bool.and_eq_true, Bool.not_eq_true', Nat.add_sub_cancel] at hB
      obtain ⟨⟨⟨hs, hrest⟩, hB1⟩, hB2⟩ := hB
      simp only [Tr.heads, List.mem_cons] at hj hr
      rcases hj with rfl | hj
      · have hi : ∃ o, l[j]? = some o := by
          obtain ⟨_, o, ho, _⟩ := mem_ready.1 (hr j (Or.inl rfl))
          exact ⟨o, by simpa using ho⟩
        obtain ⟨o, ho⟩ := hi
        have hL := h.1
        rw [pickOps_cons, pickOps_some ho] at hL
        simp only [pickOps, List.flatMap_nil, List.append_nil] at hL
        have ho' : l.toArray[j]? = some o := by simpa using ho
        unfold wpOp
        rw [ho']
        simp only [wpList] at hL
        split at hL
        · rename_i hw
          simp only [hw, if_true]
          rcases hL with h1 | ⟨h1, h2⟩
          · exact .inl (wp_phPost (Oper.wp_mono (fun a' w' hK => ⟨hK.1, (wpAnyH_tr hsel hQ s).1 hs n _ a' w' hK.1 hB1 hK.2⟩) h1))
          · exact .inr ⟨h1, h2⟩
        · rename_i hw
          simp only [hw]
          exact ⟨hL.1, (wpAnyH_tr hsel hQ s).1 hs n _ _ _ hL.1 hB1 hL.2⟩
      · exact (wpAnyH_tr hsel hQ rest).2 hrest n listed a w hB2 (fun k hk => hr k (Or.inr hk)) h.2 j hj⟩

theorem wp_region_tr {id : Nat} {a : Act} {w : World} {l : List Oper} (t : Tr) (hm : P.follows .mixedOrders = true)
    (hB : (Region.noSelect l.toArray && t.reg && trB l.toArray t l.length (Array.replicate l.toArray.size false)) = true)
    (hQ : ∀ c (a a' : Act) w, a'.defers = a.defers → Q (.panic c) a' w → Q (.panic c) a w) (hC : C w.drew)
    (h : wpTr P l C Q t a w.drew) : (Code.region id l.toArray true).wp P Q a w := by
  simp only [Bool.and_eq_true] at hB
  obtain ⟨⟨hsel, hreg⟩, hB⟩ := hB
  refine wp_region_any hm (wpAny_of_held (S := C) _ _ _ _ ?_)
  have := (wpAnyH_tr hsel hQ t).1 hreg l.length _ a _ hC hB h
  simpa using this
/-- What holds of the world now: the class, and nothing older than the call is touched. -/
structure HoldT (S : World → Prop) (w u : World) : Prop where
  has : S u
  up : Below w.heap.size w u
def Stab (S : World → Prop) : Prop := ∀ u u', S u → Below u.heap.size u u' → S u'
theorem HoldT.step {S : World → Prop} {w u u' : World} (hs : Stab S) (h : HoldT S w u) (hb : Below u.heap.size u u') : HoldT S w u' := ⟨hs _ _ h.has hb, h.up.trans (hb.mono h.up.size)⟩
theorem HoldT.alloc {S : World → Prop} {w u : World} (hs : Stab S) (h : HoldT S w u) (o : Obj) : HoldT S w (u.alloc o) := h.step hs (by go_grown)
theorem HoldT.drew {S : World → Prop} {w u : World} (hs : Stab S) (h : HoldT S w u) : HoldT S w u.drew := h.step hs (Below.drew (Below.refl _ _))
theorem HoldT.drewN {S : World → Prop} {w u : World} (hs : Stab S) (h : HoldT S w u) (n : Nat) : HoldT S w (u.drewN n) := h.step hs (below_drewN (Below.refl _ _) n)
theorem phPost_hold {S : World → Prop} {w u : World} {K : Act → World → Prop} {a : Act} (hk : HoldT S w u) (h : HoldT S w u → K a u) : phPost (fun a'' w'' => (∃ e : InC S, w'' = e.u) ∧ K a'' w'') Q .normal a u := ⟨⟨⟨u, hk.has⟩, rfl⟩, h hk⟩
theorem Stab.blk (g : Nat) (cs : Array Value) (t : TypeId) : Stab (fun u => Blk u g cs t) := fun _ _ h hb => h.below hb
theorem Stab.and {S T : World → Prop} (hs : Stab S) (ht : Stab T) : Stab (fun u => S u ∧ T u) := fun u u' h hb => ⟨hs u u' h.1 hb, ht u u' h.2 hb⟩
theorem Stab.sees (sz : Nat) (v : Value) (n : Nat) (xs : List Value) (h0 : 0 < sz) : Stab (fun u => Sees u sz v n xs) := fun _ _ h hb => h.below hb h0
theorem Stab.cell (a : Addr) (v : Value) : Stab (fun u => u.cell? a = some v) := fun u _ h hb => (hb.cell (World.block_lt_of_cell? u _ h)).trans h
end Go.Proofs.YtbgnfioggmkdeaaGreatDoor
