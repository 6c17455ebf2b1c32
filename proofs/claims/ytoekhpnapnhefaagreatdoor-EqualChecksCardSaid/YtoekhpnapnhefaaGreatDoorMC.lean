/-
  SHA-256, plain, in the words of a walk.
  SHA-256: the small functions of package digest: contracts.
  SHA-256: the schedule of a block: contract.
  SHA-256: a block is added to a state: contract.
  slices.Chunk over bytes: what its iterator hands out, 64 bytes at a time.
  Slices of bytes of the call's own: append, zeros appended; out of a string.
  SHA-256: bytes, start, the maker of the iterator: contracts.
  SHA-256: Sum: contract.
  SHA-256: Sum: contract.
  group.number: contract.
  group.Scalar: contract.
-/
import Derived.Laws.Entries
import Derived.Laws.BitsAllLaws
import Derived.RangeFuncNested
import Derived.RangeFuncBound
import Derived.RangeFuncCalls
import Derived.RangeFuncLeaves
import Derived.Shelf.Abstract
import Derived.Shelf.RegionOpen
import Derived.WalkKit
import Derived.OwnWalkIn
import Derived.TacticsInMore
import Derived.LoopNIn
import Derived.LoopIn
import Derived.BigRegionIn
import Derived.Lib.MinMax
import Derived.ArgAppend
import Derived.Deep.AppendSrc
import Derived.Lib.AppendZerosOnto
import Derived.Lib.ConvBytes
import Derived.Lib.AppendZeros
import Derived.Test.YtoekhpnapnhefaaGreatDoorMB
import Derived.Test.YtoekhpnapnhefaaGreatDoorMA
import Derived.Test.YtoekhpnapnhefaaGreatDoorProg
namespace Go.Proofs.YtoekhpnapnhefaaGreatDoor
open Go
set_option linter.unusedVariables false
set_option linter.unusedSimpArgs false
def bx (a b : Int) : Int := bits .xor .u32 a b
def bn (a b : Int) : Int := bits .and .u32 a b
def bo (a b : Int) : Int := bits .or .u32 a b
def wr (a : Int) : Int := IntKind.u32.wrap a
def rr (x : Int) (n : Nat) : Int := bo (x / 2 ^ n) (wr (x * 2 ^ (32 - n)))

/-- a word of a block -/
def be4 (x0 x1 x2 x3 : UInt8) : Int := bo (bo (bo ((x0.toNat : Int) * 16777216) ((x1.toNat : Int) * 65536)) ((x2.toNat : Int) * 256)) (x3.toNat : Int)
def be32 (b : List UInt8) (i : Nat) : Int := be4 (b.getD (4 * i) 0) (b.getD (4 * i + 1) 0) (b.getD (4 * i + 2) 0) (b.getD (4 * i + 3) 0)
def nextW (w : List Int) (i : Nat) : Int :=
  wr (wr (wr (w.getD (i - 16) 0 + bx (bx (rr (w.getD (i - 15) 0) 7) (rr (w.getD (i - 15) 0) 18)) (w.getD (i - 15) 0 / 8)) + w.getD (i - 7) 0) + bx (bx (rr (w.getD (i - 2) 0) 17) (rr (w.getD (i - 2) 0) 19)) (w.getD (i - 2) 0 / 1024))
def sched (b : List UInt8) : Nat → List Int
  | 0 => []
  | i + 1 => sched b i ++ [if i < 16 then be32 b i else nextW (sched b i) i]
def kTab : List Int := [
  0x428a2f98, 0x71374491, 0xb5c0fbcf, 0xe9b5dba5, 0x3956c25b, 0x59f111f1, 0x923f82a4, 0xab1c5ed5,
  0xd807aa98, 0x12835b01, 0x243185be, 0x550c7dc3, 0x72be5d74, 0x80deb1fe, 0x9bdc06a7, 0xc19bf174,
  0xe49b69c1, 0xefbe4786, 0x0fc19dc6, 0x240ca1cc, 0x2de92c6f, 0x4a7484aa, 0x5cb0a9dc, 0x76f988da,
  0x983e5152, 0xa831c66d, 0xb00327c8, 0xbf597fc7, 0xc6e00bf3, 0xd5a79147, 0x06ca6351, 0x14292967,
  0x27b70a85, 0x2e1b2138, 0x4d2c6dfc, 0x53380d13, 0x650a7354, 0x766a0abb, 0x81c2c92e, 0x92722c85,
  0xa2bfe8a1, 0xa81a664b, 0xc24b8b70, 0xc76c51a3, 0xd192e819, 0xd6990624, 0xf40e3585, 0x106aa070,
  0x19a4c116, 0x1e376c08, 0x2748774c, 0x34b0bcb5, 0x391c0cb3, 0x4ed8aa4a, 0x5b9cca4f, 0x682e6ff3,
  0x748f82ee, 0x78a5636f, 0x84c87814, 0x8cc70208, 0x90befffa, 0xa4506ceb, 0xbef9a3f7, 0xc67178f2]
structure S8 where
  a : Int
  b : Int
  c : Int
  d : Int
  e : Int
  f : Int
  g : Int
  h : Int
def round8 (k w : Int) (s : S8) : S8 :=
  let t := wr (wr (wr (wr (s.h + bx (bx (rr s.e 6) (rr s.e 11)) (rr s.e 25)) + bx (bn s.e s.f) (bn (bx 4294967295 s.e) s.g)) + k) + w)
  let u := wr (bx (bx (rr s.a 2) (rr s.a 13)) (rr s.a 22) + bx (bx (bn s.a s.b) (bn s.a s.c)) (bn s.b s.c))
  ⟨wr (t + u), s.a, s.b, s.c, wr (s.d + t), s.e, s.f, s.g⟩
def rounds8 (w : List Int) (s : S8) : Nat → S8
  | 0 => s
  | i + 1 => round8 (kTab.getD i 0) (w.getD i 0) (rounds8 w s i)
def addB (s : S8) (b : List UInt8) : S8 :=
  let v := rounds8 (sched b 64) s 64
  ⟨wr (s.a + v.a), wr (s.b + v.b), wr (s.c + v.c), wr (s.d + v.d), wr (s.e + v.e), wr (s.f + v.f), wr (s.g + v.g), wr (s.h + v.h)⟩
def iv : S8 := ⟨0x6a09e667, 0xbb67ae85, 0x3c6ef372, 0xa54ff53a, 0x510e527f, 0x9b05688c, 0x1f83d9ab, 0x5be0cd19⟩
def by4 (x : Int) : List UInt8 := [UInt8.ofNat (x / 16777216 % 256).toNat, UInt8.ofNat (x / 65536 % 256).toNat, UInt8.ofNat (x / 256 % 256).toNat, UInt8.ofNat (x % 256).toNat]
def padTo (n : Nat) : Nat := (64 + 56 - (n + 1) % 64) % 64
def padded (s : List UInt8) : List UInt8 := s ++ 0x80 :: List.replicate (padTo s.length) 0 ++ by4 (s.length * 8 / 4294967296 : Nat) ++ by4 (s.length * 8 % 4294967296 : Nat)
def blocks (m : List UInt8) : Nat → S8
  | 0 => iv
  | n + 1 => addB (blocks m n) ((m.drop (64 * n)).take 64)
def S8.out (s : S8) : List UInt8 := by4 s.a ++ by4 s.b ++ by4 s.c ++ by4 s.d ++ by4 s.e ++ by4 s.f ++ by4 s.g ++ by4 s.h
def sha (s : List UInt8) : List UInt8 := (blocks (padded s) ((padded s).length / 64)).out
end Go.Proofs.YtoekhpnapnhefaaGreatDoor

namespace Go.Proofs.YtoekhpnapnhefaaGreatDoor
open Go.RowKit
set_option linter.unusedVariables false
set_option linter.unusedSimpArgs false
def u32s (l : List Int) : List Value := l.map (Value.int .u32)
theorem u32s_one (l : List Int) : ∀ v ∈ u32s l, v.oneCell' = true := by intro v hv; simp only [u32s, List.mem_map] at hv; obtain ⟨x, _, rfl⟩ := hv; rfl
def zeros : List Value := List.replicate 64 (Value.int .u32 0)
theorem zero64 (w : World) : (zeroValue 185).run Tryz.prog w = .ok (.agg zeros.toArray) w := by kernel_rfl
theorem info64 : (Tryz.prog.info? 185).map (·.size) = some 64 := by kernel_rfl
theorem rounds_any (w : World) :
    Calls Tryz.prog 159 #[] w fun e w' => e = .returned (.agg (u32s kTab).toArray) ∧ Only (fun _ => False) w w' := by
  have I64 : (Tryz.prog.info? 185).map (·.size) = some (u32s kTab).length := info64
  have L64 : zeros.length = (u32s kTab).length := by decide
  have H1 := Lib.hid (u32s_one kTab)
  go_enter Tryz.func159, Tryz.ntmps159
  go_wp2_with (first | (with_reducible refine wpl_alloc_all rfl _ rfl _ (zero64 _) ?_; intro w1 h1 o1 s1) | (with_reducible refine wpl_build rfl _ _ rfl (.agg (u32s kTab).toArray) (by kernel_rfl) ?_) |
    (refine wpl_store_all rfl 185 (.tmp 0) (.tmp 1) rfl w.heap.size 185 zeros (u32s kTab) rfl rfl h1 L64 I64 H1.out ?_; intro w2 h2 o2 s2))
  refine bodyPost_ret (results_all rfl _ w.heap.size rfl _ _ _ h2 Tryz.underlying185 rfl I64) rfl ⟨rfl, ?_⟩
  exact (o1.mono (T := fun i => w.heap.size ≤ i) (fun _ _ h => h.elim)).trans (o2.mono (T := fun i => w.heap.size ≤ i) (fun i _ h => by omega)) (fun i _ h => h) |>.mono (fun i hi h => by omega)
theorem rrounds_any (w : World) :
    Calls Tryz.prog 161 #[] w fun e w' => e = .returned (.agg (u32s kTab).toArray) ∧ Only (fun _ => False) w w' := by
  have I64 : (Tryz.prog.info? 185).map (·.size) = some (u32s kTab).length := info64
  have L64 : zeros.length = (u32s kTab).length := by decide
  have H1 := Lib.hid (u32s_one kTab)
  go_enter Tryz.func161, Tryz.ntmps161
  go_wp2_with (first | (with_reducible refine wpl_alloc_all rfl _ rfl _ (zero64 _) ?_; intro w1 h1 o1 s1) | (with_reducible refine wpl_build rfl _ _ rfl (.agg (u32s kTab).toArray) (by kernel_rfl) ?_) |
    (refine wpl_store_all rfl 185 (.tmp 0) (.tmp 1) rfl w.heap.size 185 zeros (u32s kTab) rfl rfl h1 L64 I64 H1.out ?_; intro w2 h2 o2 s2))
  refine bodyPost_ret (results_all rfl _ w.heap.size rfl _ _ _ h2 Tryz.underlying185 rfl I64) rfl ⟨rfl, ?_⟩
  exact (o1.mono (T := fun i => w.heap.size ≤ i) (fun _ _ h => h.elim)).trans (o2.mono (T := fun i => w.heap.size ≤ i) (fun i _ h => by omega)) (fun i _ h => h) |>.mono (fun i hi h => by omega)

theorem ret_u32 {a b : Int} (h : a = b) : Ending.returned (.int .u32 a) = .returned (.int .u32 b) := by rw [h]
/-- a number of bytes in a slice that may be anywhere -/
def BytesAt (w : World) (g o : Nat) (l : List UInt8) : Prop := ∀ j b, l[j]? = some b → w.cell? ⟨g, o + j, none⟩ = some (.int .u8 (b.toNat : Int))

theorem u8_le (b : UInt8) : (b.toNat : Int) ≤ 255 := by have := b.toNat_lt; omega
theorem word_any (g o n c : Nat) (x0 x1 x2 x3 : UInt8) (w : World) (hn : 4 ≤ n) (h0 : w.cell? ⟨g, o, none⟩ = some (.int .u8 (x0.toNat : Int))) (h1 : w.cell? ⟨g, o + 1, none⟩ = some (.int .u8 (x1.toNat : Int))) (h2 : w.cell? ⟨g, o + 2, none⟩ = some (.int .u8 (x2.toNat : Int))) (h3 : w.cell? ⟨g, o + 3, none⟩ = some (.int .u8 (x3.toNat : Int))) :
    Calls Tryz.prog 184 #[.slice (some ⟨g, o, none⟩) n c] w fun e w' => e = .returned (.int .u32 (be4 x0 x1 x2 x3)) ∧ ∃ n, w' = w.drewN n := by
  have b0 := u8_le x0
  have b1 := u8_le x1
  have b2 := u8_le x2
  have b3 := u8_le x3
  have i0 : (0 : Int) < (n : Int) := by omega
  have i1 : (1 : Int) < (n : Int) := by omega
  have i2 : (2 : Int) < (n : Int) := by omega
  have i3 : (3 : Int) < (n : Int) := by omega
  go_enter Tryz.func184, Tryz.ntmps184
  go_wp2_with fail
  go_quiet (fail)
  go_wp2_with fail
  go_ret
  exact ⟨rfl, _, rfl⟩

/-- a rotation to the left by s, as the walk has it -/
theorem rotl_any (x k : Int) (s : Nat) (w : World) (hs : s ≤ 31) (hk : bits BinOp.and IntKind.u64 (IntKind.u64.wrap k) 31 = (s : Int)) :
    Calls Tryz.prog 185 #[.int .u32 x, .int .i64 k] w fun e w' => e = .returned (.int .u32 (bo (wr (x * 2 ^ s)) (x / 2 ^ (32 - s)))) ∧ w = w' := by
  go_enter Tryz.func185, Tryz.ntmps185
  go_wp2_with fail
  go_ret
  exact ⟨rfl, rfl⟩
theorem bo_comm (a b : Int) : bo a b = bo b a := by unfold bo bits; simp only [BitVec.or_comm]
theorem rot_any (x k : Int) (n : Nat) (w : World) (h1 : 1 ≤ n) (h2 : n ≤ 31) (hk : k = -(n : Int)) :
    Calls Tryz.prog 185 #[.int .u32 x, .int .i64 k] w fun e w' => e = .returned (.int .u32 (rr x n)) ∧ w = w' := by
  have e : bits BinOp.and IntKind.u64 (IntKind.u64.wrap k) 31 = ((32 - n : Nat) : Int) := by
    have : ∀ n : Fin 32, 1 ≤ n.val → bits BinOp.and IntKind.u64 (IntKind.u64.wrap (-(n.val : Int))) 31 = ((32 - n.val : Nat) : Int) := by decide +kernel
    rw [hk]; exact this ⟨n, by omega⟩ h1
  refine (rotl_any x k (32 - n) w (by omega) e).mono ?_
  rintro e w' ⟨rfl, rfl⟩
  exact ⟨ret_u32 (by rw [bo_comm, show 32 - (32 - n) = n by omega]; rfl), rfl⟩
theorem mixed_any (x a b c : Int) (i j k : Nat) (w : World) (h1 : 1 ≤ i) (h2 : i ≤ 31) (h3 : 1 ≤ j) (h4 : j ≤ 31) (h5 : 1 ≤ k) (h6 : k ≤ 31) (ha : a = (i : Int)) (hb : b = (j : Int)) (hc : c = (k : Int)) :
    Calls Tryz.prog 160 #[.int .u32 x, .int .i64 a, .int .i64 b, .int .i64 c] w fun e w' => e = .returned (.int .u32 (bx (bx (rr x i) (rr x j)) (rr x k))) ∧ w = w' := by
  subst ha hb hc
  go_enter Tryz.func160, Tryz.ntmps160
  go_wp2_with fail
  refine (rot_any x _ i _ h1 h2 (by omega)).mono ?_
  rintro e w' ⟨rfl, rfl⟩
  go_wp2_with fail
  refine (rot_any x _ j _ h3 h4 (by omega)).mono ?_
  rintro e w' ⟨rfl, rfl⟩
  go_wp2_with fail
  refine (rot_any x _ k _ h5 h6 (by omega)).mono ?_
  rintro e w' ⟨rfl, rfl⟩
  go_wp2_with fail
  go_ret
  exact ⟨rfl, rfl⟩
end Go.Proofs.YtoekhpnapnhefaaGreatDoor

namespace Go.Proofs.YtoekhpnapnhefaaGreatDoor
open Go.RowKit
set_option linter.unusedVariables false
set_option linter.unusedSimpArgs false

/-- the words so far, with zeros behind them -/
def schedZ (b : List UInt8) (i : Nat) : List Int := sched b i ++ List.replicate (64 - i) 0
theorem sched_len (b : List UInt8) : ∀ i, (sched b i).length = i
  | 0 => rfl
  | i + 1 => by simp [sched, sched_len b i]
theorem schedZ_len (b : List UInt8) (i : Nat) (h : i ≤ 64) : (schedZ b i).length = 64 := by simp [schedZ, sched_len]; omega
theorem schedZ_get (b : List UInt8) (i j : Nat) (hi : i ≤ 64) (h : j < i) : (u32s (schedZ b i))[j]? = some (.int .u32 ((sched b i).getD j 0)) := by
  have : j < (sched b i).length := by rw [sched_len]; exact h
  unfold u32s schedZ
  rw [List.map_append, List.getElem?_append_left (by simpa using this)]
  simp [List.getD_eq_getElem?_getD, this]
theorem schedZ_cell (b : List UInt8) (i : Nat) (h : i < 64) : (u32s (schedZ b i))[i]? = some (.int .u32 0) := by
  unfold u32s schedZ
  rw [List.map_append, List.getElem?_append_right (by rw [List.length_map, sched_len]; exact Nat.le_refl _), List.length_map, sched_len, Nat.sub_self, List.map_replicate, List.getElem?_replicate_of_lt (by omega)]
theorem schedZ_set (b : List UInt8) (i : Nat) (h : i < 64) (v : Int) (hv : v = if i < 16 then be32 b i else nextW (sched b i) i) : (u32s (schedZ b i)).set i (.int .u32 v) = u32s (schedZ b (i + 1)) := by
  subst hv
  have h1 : (sched b i).length = i := sched_len b i
  have h2 : List.replicate (64 - i) (0 : Int) = 0 :: List.replicate (64 - (i + 1)) 0 := by rw [show 64 - i = (64 - (i + 1)) + 1 by omega]; rfl
  unfold u32s schedZ
  rw [h2, sched]
  simp only [List.map_append, List.map_cons, List.append_assoc, List.map_nil, List.cons_append, List.nil_append]
  rw [List.set_append_right _ _ (by simp [h1])]
  simp [h1]
theorem schedZ_zero (b : List UInt8) : u32s (schedZ b 0) = zeros := rfl
theorem schedZ_all (b : List UInt8) : schedZ b 64 = sched b 64 := by simp [schedZ]

def wr32 (x16 x15 x7 x2 : Int) : Int := wr (wr (wr (x16 + bx (bx (rr x15 7) (rr x15 18)) (x15 / 8)) + x7) + bx (bx (rr x2 17) (rr x2 19)) (x2 / 1024))
theorem wr32_eq (x16 x15 x7 x2 : Int) : wr32 x16 x15 x7 x2 = (x16 + bits BinOp.xor IntKind.u32 (bits BinOp.xor IntKind.u32 (rr x15 7) (rr x15 18)) (x15 / 8) + x7 + bits BinOp.xor IntKind.u32 (bits BinOp.xor IntKind.u32 (rr x2 17) (rr x2 19)) (x2 / 1024)) % 4294967296 := by
  unfold wr32 wr bx
  simp only [IntKind.wrap_u32']
  generalize bits BinOp.xor IntKind.u32 (bits BinOp.xor IntKind.u32 (rr x15 7) (rr x15 18)) (x15 / 8) = a
  generalize bits BinOp.xor IntKind.u32 (bits BinOp.xor IntKind.u32 (rr x2 17) (rr x2 19)) (x2 / 1024) = b
  omega
theorem infoSched (B : List UInt8) : (Tryz.prog.info? 185).map (·.size) = some (u32s (sched B 64)).length := by rw [u32s, List.length_map, sched_len]; exact info64
theorem lenSched (B : List UInt8) : zeros.length = (u32s (sched B 64)).length := by rw [u32s, List.length_map, sched_len]; rfl
theorem bytes_get {w : World} {g o : Nat} {l : List UInt8} (h : BytesAt w g o l) (j : Nat) (hj : j < l.length) : w.cell? ⟨g, o + j, none⟩ = some (.int .u8 ((l.getD j 0).toNat : Int)) :=
  h j _ (by simp [List.getD_eq_getElem?_getD, hj])
theorem BytesAt.only {w w' : World} {g o : Nat} {l : List UInt8} {S : Nat → Prop} (h : BytesAt w g o l) (ho : Only S w w') (hg : ¬ S g) : BytesAt w' g o l := fun j b hj => ho.cell (h j b hj) hg

set_option maxRecDepth 100000 in
set_option maxHeartbeats 1000000 in
theorem schedule_any (g o n c : Nat) (B : List UInt8) (w : World) (hn : 64 ≤ n) (hnc : n ≤ c) (hc : (c : Int) ≤ 9223372036854775807) (hB : B.length = 64) (hb : BytesAt w g o B) :
    Calls Tryz.prog 158 #[.slice (some ⟨g, o, none⟩) n c] w fun e w' => e = .returned (.agg (u32s (sched B 64)).toArray) ∧ Only (fun _ => False) w w' := by
  have H1 := Lib.hid (u32s_one (sched B 64))
  have HB := Lib.hid hb
  have HL := Lib.hid hB
  have hn1 : (64 : Int) ≤ (n : Int) := by omega
  have hn2 : (n : Int) ≤ (c : Int) := by omega
  clear hB hb
  go_enter Tryz.func158, Tryz.ntmps158
  go_wp2_with (first | (with_reducible refine wpl_alloc_all rfl _ rfl _ (zero64 _) ?_; intro w1 h1 o1 s1; have H9 := Lib.hid h1; have O9 := Lib.hid o1; clear h1 o1))
  rename_i wa sa ha oa kk aa
  have G1 := Lib.hid ((ha.out.only O9.out (fun h => h)))
  have G2 := Lib.hid (show At w1 (w.heap.size + 1) 185 zeros by have := H9.out; rw [sa] at this; exact this)
  have G3 := Lib.hid (oa.out.trans O9.out (fun _ _ h => h))
  clear ha oa H9 O9
  go_loopw [9] (fun iv wr => ∃ i : Nat, i ≤ 64 ∧ iv = .int .i64 i ∧ At wr w.heap.size 185 zeros ∧ At wr (w.heap.size + 1) 185 (u32s (schedZ B i)) ∧ Only (fun _ => False) w wr) (fun iv _ => 64 - (intOf iv).toNat)
  case atStart => exact ⟨0, by omega, rfl, G1.out, by rw [schedZ_zero]; exact G2.out, G3.out⟩
  case round =>
    clear G1 G2 G3 s1 sa
    obtain ⟨i, hi, rfl, h1, h2, ho⟩ := hrel
    have R1 := Lib.hid h1
    have R2 := Lib.hid h2
    have RO := Lib.hid ho
    by_cases hlt : i < 64
    · have f := h2.frozen i
      have cz := h2.cell (schedZ_cell B i hlt)
      have hgs := World.block_lt_of_cell? _ _ (bytes_get HB.out 0 (by rw [HL.out]; omega))
      by_cases h16 : i < 16
      · have hbw := HB.out.only ho (fun h => h)
        have b0 := bytes_get hbw (4 * i) (by rw [HL.out]; omega)
        have b1 := bytes_get hbw (4 * i + 1) (by rw [HL.out]; omega)
        have b2 := bytes_get hbw (4 * i + 2) (by rw [HL.out]; omega)
        have b3 := bytes_get hbw (4 * i + 3) (by rw [HL.out]; omega)
        have WD := Lib.hid (word_any g (o + 4 * i) (n - 4 * i) (c - 4 * i) _ _ _ _ wr (by omega) b0 b1 b2 b3)
        clear h1 h2 ho hbw b0 b1 b2 b3
        have j1 : (4 : Int) * (i : Int) ≤ (n : Int) := by omega
        have j2 : (4 : Int) * (i : Int) < (c : Int) := by omega
        have j3 : 4 * i < c := by omega
        have j4 : 4 * i ≤ n := by omega
        go_wp2_with fail
        refine WD.out.mono ?_
        rintro e w2 ⟨rfl, k, rfl⟩
        have S1 := Lib.hid (schedZ_set B i hlt (be32 B i) (by rw [if_pos h16]))
        clear WD
        go_wp2_with fail
        go_roundw
        case rel => exact ⟨i + 1, by omega, by go_num, (R1.out.drewN k).far (p := ⟨w.heap.size + 1, i, none⟩) (by dsimp only; omega) _, by rw [← S1.out]; exact (R2.out.drewN k).put i _, (RO.out.drewN k).put (p := ⟨w.heap.size + 1, i, none⟩) (fun h => absurd h (by dsimp only; omega)) _⟩
        case measure => simp [intOf]; omega
      · have c16 := h2.cell (schedZ_get B i (i - 16) hi (by omega))
        have c15 := h2.cell (schedZ_get B i (i - 15) hi (by omega))
        have c7 := h2.cell (schedZ_get B i (i - 7) hi (by omega))
        have c2 := h2.cell (schedZ_get B i (i - 2) hi (by omega))
        have S1 := Lib.hid (schedZ_set B i hlt (nextW (sched B i) i) (by rw [if_neg h16]))
        have NW := Lib.hid (show nextW (sched B i) i = wr32 ((sched B i).getD (i - 16) 0) ((sched B i).getD (i - 15) 0) ((sched B i).getD (i - 7) 0) ((sched B i).getD (i - 2) 0) from rfl)
        clear h1 h2 ho
        generalize (sched B i).getD (i - 16) 0 = x16 at *
        generalize (sched B i).getD (i - 15) 0 = x15 at *
        generalize (sched B i).getD (i - 7) 0 = x7 at *
        generalize (sched B i).getD (i - 2) 0 = x2 at *
        have j1 : (15 : Int) ≤ (i : Int) := by omega
        have j2 : (2 : Int) ≤ (i : Int) := by omega
        have j3 : (16 : Int) ≤ (i : Int) := by omega
        have j4 : (7 : Int) ≤ (i : Int) := by omega
        have j5 : (i : Int) < 64 := by omega
        go_wp2_with fail
        go_quiet (fail)
        go_wp2_with fail
        refine (rot_any x15 _ 7 _ (by omega) (by omega) rfl).mono ?_
        rintro e w' ⟨rfl, rfl⟩
        go_wp2_with fail
        refine (rot_any x15 _ 18 _ (by omega) (by omega) rfl).mono ?_
        rintro e w' ⟨rfl, rfl⟩
        go_wp2_with fail
        refine (rot_any x2 _ 17 _ (by omega) (by omega) rfl).mono ?_
        rintro e w' ⟨rfl, rfl⟩
        go_wp2_with fail
        refine (rot_any x2 _ 19 _ (by omega) (by omega) rfl).mono ?_
        rintro e w' ⟨rfl, rfl⟩
        go_wp2_with fail
        go_region
        go_wp2_with fail
        go_roundw
        rw [← wr32_eq, ← NW.out]
        case rel => exact ⟨i + 1, by omega, by go_num, (R1.out.drewN _).far (p := ⟨w.heap.size + 1, i, none⟩) (by dsimp only; omega) _, by rw [← S1.out]; exact (R2.out.drewN _).put i _, (RO.out.drewN _).put (p := ⟨w.heap.size + 1, i, none⟩) (fun h => absurd h (by dsimp only; omega)) _⟩
        case measure => simp [intOf]; omega
    · obtain rfl : i = 64 := by omega
      rw [schedZ_all] at h2
      clear R1 R2
      go_wp2_with (first | (refine wpl_load_all rfl 185 (.tmp 3) rfl (w.heap.size + 1) rfl 185 (u32s (sched B 64)) _ h2 Tryz.underlying185 rfl (infoSched B) ?_) |
        (refine wpl_store_all rfl 185 (.tmp 2) (.tmp 61) rfl w.heap.size 185 zeros (u32s (sched B 64)) rfl rfl h1 (lenSched B) (infoSched B) H1.out ?_; intro w3 h3 o3 s3))
      refine bodyPost_ret (results_all rfl _ w.heap.size rfl _ _ _ h3 Tryz.underlying185 rfl (infoSched B)) rfl ⟨rfl, ?_⟩
      exact RO.out.trans (o3.mono (T := fun i => w.heap.size ≤ i) (fun i _ h => by omega)) (fun i hi h => by omega)
end Go.Proofs.YtoekhpnapnhefaaGreatDoor

namespace Go.Proofs.YtoekhpnapnhefaaGreatDoor
open Go.RowKit
set_option linter.unusedVariables false
set_option linter.unusedSimpArgs false

theorem rounds_cell (j : Nat) (h : j < 64) : (u32s kTab)[j]? = some (.int .u32 (kTab.getD j 0)) := by
  have : j < kTab.length := h
  simp [u32s, List.getD_eq_getElem?_getD, this]
theorem sched_cell (B : List UInt8) (j : Nat) (h : j < 64) : (u32s (sched B 64))[j]? = some (.int .u32 ((sched B 64).getD j 0)) := by
  have : j < (sched B 64).length := by rw [sched_len]; exact h
  simp [u32s, List.getD_eq_getElem?_getD, this]
theorem infoK : (Tryz.prog.info? 185).map (·.size) = some (u32s kTab).length := info64
theorem lenK : zeros.length = (u32s kTab).length := by decide
def S8.l (s : S8) : List Int := [s.a, s.b, s.c, s.d, s.e, s.f, s.g, s.h]
def Rnd (W : List Int) (s : S8) (i : Nat) (r : S8) : Prop := r = rounds8 W s i
theorem rnd_next {W : List Int} {s r : S8} {i : Nat} (h : Rnd W s i r) : Rnd W s (i + 1) (round8 (kTab.getD i 0) (W.getD i 0) r) := by
  unfold Rnd at *; subst h; rfl

theorem round8_eq (k w a b c d e f g h : Int) : round8 k w ⟨a, b, c, d, e, f, g, h⟩ = ⟨((h + bx (bx (rr e 6) (rr e 11)) (rr e 25) + bits BinOp.xor IntKind.u32 (bits BinOp.and IntKind.u32 e f) (bits BinOp.and IntKind.u32 (bits BinOp.xor IntKind.u32 IntKind.u32.max e) g) + k + w) % 4294967296 +
      (bx (bx (rr a 2) (rr a 13)) (rr a 22) + bits BinOp.xor IntKind.u32 (bits BinOp.xor IntKind.u32 (bits BinOp.and IntKind.u32 a b) (bits BinOp.and IntKind.u32 a c)) (bits BinOp.and IntKind.u32 b c)) % 4294967296) % 4294967296, a, b, c,
    (d + (h + bx (bx (rr e 6) (rr e 11)) (rr e 25) + bits BinOp.xor IntKind.u32 (bits BinOp.and IntKind.u32 e f) (bits BinOp.and IntKind.u32 (bits BinOp.xor IntKind.u32 IntKind.u32.max e) g) + k + w) % 4294967296) % 4294967296, e, f, g⟩ := by
  have hm : IntKind.u32.max = 4294967295 := by decide
  simp only [round8, wr, IntKind.wrap_u32', bx, bn, hm, S8.mk.injEq, true_and, and_true]
  generalize bits BinOp.xor IntKind.u32 (bits BinOp.xor IntKind.u32 (rr e 6) (rr e 11)) (rr e 25) = x1
  generalize bits BinOp.xor IntKind.u32 (bits BinOp.and IntKind.u32 e f) (bits BinOp.and IntKind.u32 (bits BinOp.xor IntKind.u32 4294967295 e) g) = x2
  generalize bits BinOp.xor IntKind.u32 (bits BinOp.xor IntKind.u32 (rr a 2) (rr a 13)) (rr a 22) = x3
  generalize bits BinOp.xor IntKind.u32 (bits BinOp.xor IntKind.u32 (bits BinOp.and IntKind.u32 a b) (bits BinOp.and IntKind.u32 a c)) (bits BinOp.and IntKind.u32 b c) = x4
  constructor <;> omega

/-- the state, its first i words summed -/
def addZ (s v : List Int) : Nat → List Int
  | 0 => s
  | i + 1 => (addZ s v i).set i ((s.getD i 0 + v.getD i 0) % 4294967296)
theorem addZ_len (s v : List Int) : ∀ i, (addZ s v i).length = s.length
  | 0 => rfl
  | i + 1 => by simp [addZ, addZ_len s v i]
theorem addZ_get (s v : List Int) (j : Nat) : ∀ i, i ≤ j → (addZ s v i).getD j 0 = s.getD j 0
  | 0, _ => rfl
  | i + 1, h => by
    have ih := addZ_get s v j i (by omega)
    rw [List.getD_eq_getElem?_getD] at ih ⊢
    rw [addZ, List.getElem?_set_ne (by omega)]
    exact ih
theorem addZ_cell (s v : List Int) (i : Nat) (h : i < s.length) : (u32s (addZ s v i))[i]? = some (.int .u32 (s.getD i 0)) := by
  have hl : i < (addZ s v i).length := by rw [addZ_len]; exact h
  have := addZ_get s v i i (Nat.le_refl _)
  rw [List.getD_eq_getElem?_getD, List.getElem?_eq_getElem hl] at this
  simp only [u32s, List.getElem?_map, List.getElem?_eq_getElem hl, Option.map_some]
  rw [← this]; rfl
theorem addZ_set (s v : List Int) (i : Nat) : (u32s (addZ s v i)).set i (.int .u32 ((s.getD i 0 + v.getD i 0) % 4294967296)) = u32s (addZ s v (i + 1)) := by
  simp [u32s, addZ, List.map_set]
def sum8 (s v : S8) : S8 := ⟨wr (s.a + v.a), wr (s.b + v.b), wr (s.c + v.c), wr (s.d + v.d), wr (s.e + v.e), wr (s.f + v.f), wr (s.g + v.g), wr (s.h + v.h)⟩
theorem addZ_end (s v : S8) : addZ s.l v.l 8 = (sum8 s v).l := by
  simp [addZ, S8.l, sum8, wr, IntKind.wrap_u32']

set_option maxRecDepth 100000 in
set_option maxHeartbeats 2000000 in
theorem dadd_any (gs g o n c : Nat) (s : S8) (B : List UInt8) (w : World) (hn : 64 ≤ n) (hnc : n ≤ c) (hc : (c : Int) ≤ 9223372036854775807) (hB : B.length = 64) (hb : BytesAt w g o B) (hs : At w gs 161 (u32s s.l)) (hg : g ≠ gs) :
    Calls Tryz.prog 135 #[.pointer (some ⟨gs, 0, none⟩), .slice (some ⟨g, o, none⟩) n c] w fun e w' => e = .returned (.tuple #[]) ∧ At w' gs 161 (u32s (addB s B).l) ∧ Only (· = gs) w w' := by
  have HS := Lib.hid hs
  have hlt := hs.lt
  have H1 := Lib.hid (u32s_one (sched B 64))
  have H2 := Lib.hid (u32s_one kTab)
  have SC := Lib.hid (schedule_any g o n c B w hn hnc hc hB hb)
  clear hb hB hs
  go_enter Tryz.func135, Tryz.ntmps135
  go_wp2_with fail
  refine SC.out.mono ?_
  rintro e w1 ⟨rfl, o1⟩
  have O1 := Lib.hid o1
  clear o1 SC
  go_wp2_with fail
  refine (rounds_any _).mono ?_
  rintro e w2 ⟨rfl, o2⟩
  have O2 := Lib.hid (O1.out.trans o2 (fun _ _ h => h))
  clear o2 O1
  go_wp2_with (first | (with_reducible refine wpl_alloc_all (o := ⟨some 4, _, _, _, _, _⟩) rfl _ rfl _ (zero64 _) ?_; intro w3 h3 o3 s3; have S3 := Lib.hid s3; clear s3) |
    (with_reducible refine wpl_alloc_all (o := ⟨some 5, _, _, _, _, _⟩) rfl _ rfl _ (zero64 _) ?_; intro w4 h4 o4 s4; have S4 := Lib.hid s4; clear s4) |
    (refine wpl_store_all rfl 185 (.tmp 4) (.tmp 20) rfl w2.heap.size 185 zeros (u32s (sched B 64)) rfl rfl (h3.only o4 (fun h => h)) (lenSched B) (infoSched B) H1.out ?_; intro w5 h5 o5 s5; have S5 := Lib.hid s5; clear s5) |
    (refine wpl_store_all rfl 185 (.tmp 5) (.tmp 21) rfl w3.heap.size 185 zeros (u32s kTab) rfl rfl (h4.only o5 (by have := S3.out; omega)) lenK infoK H2.out ?_; intro w6 h6 o6 s6; have S6 := Lib.hid s6; clear s6))
  have hW := h5.only o6 (by have := S3.out; omega)
  have o7 : Only (fun _ => False) w w6 := by
    have e1 := O2.out.trans (o3.trans o4 (fun _ _ h => h)) (fun _ _ h => h)
    have z := O2.out.size
    have e2 := e1.trans (o5.mono (T := fun i => w.heap.size ≤ i) (fun i _ h => by omega)) (fun i hi h => by omega)
    exact e2.trans (o6.mono (T := fun i => w.heap.size ≤ i) (fun i _ h => by have := S3.out; omega)) (fun i hi h => by omega)
  have hS := HS.out.only o7 (fun h => h)
  have s0 := hS.cell (i := 0) rfl
  have s1 := hS.cell (i := 1) rfl
  have s2 := hS.cell (i := 2) rfl
  have s3 := hS.cell (i := 3) rfl
  have s4 := hS.cell (i := 4) rfl
  have s5 := hS.cell (i := 5) rfl
  have s6 := hS.cell (i := 6) rfl
  have s7 := hS.cell (i := 7) rfl
  have HW := Lib.hid hW
  have HK := Lib.hid h6
  have H7 := Lib.hid o7
  have HSS := Lib.hid hS
  have z2 := O2.out.size
  have z3 : w3.heap.size = w2.heap.size + 1 := S3.out
  have Z3 := Lib.hid z3
  clear h3 o3 h4 o4 h5 o5 h6 o6 hW o7 hS S3 S4 S5 S6 z3
  go_quiet (fail)
  go_wp2_with fail
  go_loopw [6, 7, 8, 9, 10, 11, 12, 13, 54] (fun a6 a7 a8 a9 a10 a11 a12 a13 iv wr => ∃ (i : Nat) (r : S8), i ≤ 64 ∧ iv = .int .i64 i ∧ a6 = .int .u32 r.a ∧ a7 = .int .u32 r.b ∧ a8 = .int .u32 r.c ∧ a9 = .int .u32 r.d ∧ a10 = .int .u32 r.e ∧ a11 = .int .u32 r.f ∧ a12 = .int .u32 r.g ∧ a13 = .int .u32 r.h ∧ Hid (Rnd (sched B 64) s i r) ∧
      Hid (At wr w2.heap.size 185 (u32s (sched B 64))) ∧ Hid (At wr w3.heap.size 185 (u32s kTab)) ∧ Hid (At wr gs 161 (u32s s.l)) ∧ Hid (Only (fun _ => False) w wr)) (fun _ _ _ _ _ _ _ _ iv _ => 64 - (intOf iv).toNat)
  case atStart => exact ⟨0, s, by omega, rfl, rfl, rfl, rfl, rfl, rfl, rfl, rfl, rfl, (rfl : s = rounds8 (sched B 64) s 0), HW.out.drewN _, HK.out.drewN _, HSS.out.drewN _, H7.out.drewN _⟩
  case round =>
    clear HW HK HSS H7 s0 s1 s2 s3 s4 s5 s6 s7
    obtain ⟨i, r, hi, rfl, rfl, rfl, rfl, rfl, rfl, rfl, rfl, rfl, hr, hW, hK, hS, ho⟩ := hrel
    by_cases hlt : i < 64
    · have cK := hK.out.cell (rounds_cell i hlt)
      have cW := hW.out.cell (sched_cell B i hlt)
      have NX := rnd_next hr.out
      generalize kTab.getD i 0 = kk at *
      generalize (sched B 64).getD i 0 = ww at *
      obtain ⟨ra, rb, rc, rd, re, rf, rg, rh⟩ := r
      rw [round8_eq] at NX
      have NY := Lib.hid NX
      clear NX
      dsimp only
      have i1 : (i : Int) < 64 := by omega
      go_wp2_with fail
      go_quiet ((go_at_call 160; exact Calls.quiet_of_same ((mixed_any re 6 11 25 6 11 25 _ (by omega) (by omega) (by omega) (by omega) (by omega) (by omega) rfl rfl rfl).mono (fun _ _ h => ⟨h.1, h.2.symm⟩))))
      go_wp2_with fail
      refine (mixed_any ra 2 13 22 2 13 22 _ (by omega) (by omega) (by omega) (by omega) (by omega) (by omega) rfl rfl rfl).mono ?_
      rintro e w' ⟨rfl, rfl⟩
      go_wp2_with fail
      go_roundw
      case rel => exact ⟨i + 1, S8.mk _ _ _ _ _ _ _ _, by omega, by go_num, rfl, rfl, rfl, rfl, rfl, rfl, rfl, rfl, NY, hW.out.drewN _, hK.out.drewN _, hS.out.drewN _, ho.out.drewN _⟩
      case measure => simp [intOf]; omega
    · obtain rfl : i = 64 := by omega
      have HE := Lib.hid (addZ_end s r)
      have HR : Hid (addB s B = sum8 s r) := by
        have := hr.out; unfold Rnd at this; subst this; exact rfl
      clear hr hW hK
      have HSS := Lib.hid hS.out
      have HO := Lib.hid ho.out
      clear hS ho
      obtain ⟨ra, rb, rc, rd, re, rf, rg, rh⟩ := r
      dsimp only
      go_wp2_with fail
      go_loopw [114] (fun iv wx => ∃ i : Nat, i ≤ 8 ∧ iv = .int .i64 i ∧ Hid (At wx gs 161 (u32s (addZ s.l (S8.mk ra rb rc rd re rf rg rh).l i))) ∧ Hid (Only (· = gs) w wx)) (fun iv _ => 8 - (intOf iv).toNat)
      case atStart => exact ⟨0, by omega, rfl, HSS.out, HO.out.mono (fun _ _ h => h.elim)⟩
      case round =>
        clear HSS HO
        obtain ⟨i, hi, rfl, hS, ho⟩ := hrel
        by_cases hlt : i < 8
        · have cS := hS.out.cell (addZ_cell s.l (S8.mk ra rb rc rd re rf rg rh).l i hlt)
          have fS := hS.out.frozen i
          have NS := Lib.hid (addZ_set s.l (S8.mk ra rb rc rd re rf rg rh).l i)
          have hv : (u32s (S8.mk ra rb rc rd re rf rg rh).l)[i]? = some (.int .u32 ((S8.mk ra rb rc rd re rf rg rh).l.getD i 0)) := by
            have : i < (S8.mk ra rb rc rd re rf rg rh).l.length := hlt
            simp [u32s, List.getD_eq_getElem?_getD, this]
          have HV := Lib.hid hv
          clear hv
          generalize (S8.mk ra rb rc rd re rf rg rh).l.getD i 0 = x at *
          generalize s.l.getD i 0 = y at *
          have i1 : (i : Int) < 8 := by omega
          go_wp2_with (refine wpl_index rfl 161 (.tmp 113) (.tmp 114) rfl (u32s (S8.mk ra rb rc rd re rf rg rh).l) .i64 i rfl rfl Tryz.underlying161 (Tryz.sizeOf160 _) (Tryz.isAgg160 _) hlt _ HV.out ?_)
          go_region
          go_wp2_with fail
          go_roundw
          case rel => (repeat apply Exists.intro); exact ⟨⟨i + 1, by omega, by go_num, by rw [← NS.out]; exact (hS.out.put i _).drew, (ho.out.put (p := ⟨gs, i, none⟩) (fun _ => rfl) _).drew⟩, rfl⟩
          case measure => simp [intOf]; omega
        · obtain rfl : i = 8 := by omega
          have hS' := hS.out
          rw [HE.out, ← HR.out] at hS'
          have HF := Lib.hid hS'
          clear hS' hS
          go_wp2_with fail
          go_end0
          exact ⟨rfl, HF.out, ho.out⟩
end Go.Proofs.YtoekhpnapnhefaaGreatDoor

namespace Go.Proofs.YtoekhpnapnhefaaGreatDoor
open Go.RowKit Go.Shelf
set_option linter.unusedVariables false
set_option linter.unusedSimpArgs false
attribute [local go_sem] Oper.semAt_some

/-- what a round may change: block gs, and what is new -/
def KpG (gs n₀ : Nat) (W W' : World) : Prop := Only (fun k => k = gs ∨ n₀ ≤ k) W W'
def fins (K : Nat) : Nat → List (Fin K)
  | 0 => []
  | k + 1 => if h : k < K then fins K k ++ [⟨k, h⟩] else fins K k
theorem fins_succ {K k : Nat} (h : k < K) : fins K (k + 1) = fins K k ++ [⟨k, h⟩] := by simp [fins, h]
theorem fins_len {K : Nat} : ∀ k, k ≤ K → (fins K k).length = k
  | 0, _ => rfl
  | k + 1, h => by
    have h' : k < K := h
    rw [fins_succ h', List.length_append, fins_len k (Nat.le_of_lt h')]; rfl

set_option maxRecDepth 100000 in
set_option maxHeartbeats 2000000 in
theorem chunk1_in (F : Fence) (n : Nat) (hF : F.fn 157) (hro : F.round = none) (hn : 1 ≤ n) (l Bs Bn n₀ gs g cap K : Nat) (hK : (64 * K : Int) ≤ 9223372036854775807) (hcap : 64 * K ≤ cap) (hcap2 : (cap : Int) ≤ 9223372036854775807) (h1 : Bs < n₀) (h2 : Bn < n₀) (h3 : Bs ≠ gs) (h4 : Bn ≠ gs) (J Jx : List (Fin K) → World → Prop) (hd : ∀ pre W, J pre W → J pre W.drew)
    (hY : ∀ pre x W, J pre W → pre.length < K → YieldAt F (n - 1) Tryz.prog l #[.slice (some ⟨g, 64 * x.val, none⟩) 64 64] W fun e W' =>
      (e = .returned (.bool true) ∧ J (pre ++ [x]) W' ∧ KpG gs n₀ W W') ∨ (e = .returned (.bool false) ∧ Jx (pre ++ [x]) W'))
    (W : World) (hBs : W.cell? ⟨Bs, 0, none⟩ = some (.slice (some ⟨g, 0, none⟩) (64 * K) cap)) (hBn : W.cell? ⟨Bn, 0, none⟩ = some (.int .i64 64)) (h0 : J [] W) :
    CallsIn F n Tryz.prog 157 #[.func (.yield l) #[] #[], .pointer (some ⟨Bs, 0, none⟩), .pointer (some ⟨Bn, 0, none⟩)] W fun e W' => (∃ v, e = .returned v) ∧
      ((∃ ys, ys = fins K K ∧ J ys W') ∨ (∃ pre, True ∧ Jx pre W')) := by
  refine callsIn_of_wp Tryz.func157 rfl hF ?_ hro
  simp only [Tryz.ntmps157, List.size_toArray, List.length_cons, List.length_nil, Nat.reduceAdd, Nat.reduceSub, Array.replicate_succ, Array.replicate_zero, List.push_toArray, List.append_toArray, List.nil_append, List.cons_append]
  gi_wp2
  gi_loopw [4] (fun i wr => ∃ k : Nat, k ≤ K ∧ i = .int .i64 ((64 * k : Nat) : Int) ∧ J (fins K k) wr ∧ wr.cell? ⟨Bs, 0, none⟩ = some (.slice (some ⟨g, 0, none⟩) (64 * K) cap) ∧ wr.cell? ⟨Bn, 0, none⟩ = some (.int .i64 64))
    (fun i _ => 64 * K - (intOf i).toNat)
  case atStart => exact ⟨0, Nat.zero_le _, rfl, h0, hBs, hBn⟩
  case round =>
    obtain ⟨k, hk, rfl, hJs, cs, cn⟩ := hrel
    by_cases hlt : k < K
    · obtain ⟨fn, tmps, assign, body, hy, hR⟩ := hY _ ⟨k, hlt⟩ wr.drew (hd _ _ hJs) (by rw [fins_len k hk]; exact hlt)
      dsimp only at hy
      have hmin : min (64 : Int) ((64 * K - 64 * k : Nat) : Int) = 64 := by omega
      have hsub : (64 * (k : Int) + 64).toNat - 64 * k = 64 := by omega
      have HM := Lib.hid hmin
      have HSB := Lib.hid hsub
      clear hmin hsub
      have i5 : (64 : Int) * (k : Int) + 64 ≤ (cap : Int) := by omega
      have i1 : (64 : Int) * (k : Int) < 64 * (K : Int) := by omega
      have i2 : 64 * k ≤ 64 * K := by omega
      have i3 : (64 : Int) * (k : Int) ≤ (cap : Int) := by omega
      have i4 : (64 : Int) ≤ 64 * (K : Int) - 64 * (k : Int) := by omega
      gi_wp2
      gi_region
      all_goals simp only [HM.out]
      all_goals gi_wp2
      all_goals
        refine hR.mono ?_
        rintro e W3 (⟨rfl, hJ3, hk3⟩ | ⟨rfl, hJx3⟩)
        · have cs3 : W3.cell? ⟨Bs, 0, none⟩ = some (.slice (some ⟨g, 0, none⟩) (64 * K) cap) := Only.cell (w := wr.drew) hk3 cs (by dsimp only; omega)
          have cn3 : W3.cell? ⟨Bn, 0, none⟩ = some (.int .i64 64) := Only.cell (w := wr.drew) hk3 cn (by dsimp only; omega)
          gi_wp2
          go_roundw
          case rel => exact ⟨k + 1, by omega, by go_num, by rw [fins_succ hlt]; exact hJ3, cs3, cn3⟩
          case measure => simp [intOf]; omega
        · gi_wp2
          refine bodyPost_ret (results_none rfl _ _ _) rfl ?_
          exact ⟨⟨_, rfl⟩, .inr ⟨_, trivial, hJx3⟩⟩
    · obtain rfl : k = K := by omega
      gi_wp2
      go_end0
      exact ⟨⟨_, rfl⟩, .inl ⟨_, rfl, hJs⟩⟩
end Go.Proofs.YtoekhpnapnhefaaGreatDoor

namespace Go.Proofs.YtoekhpnapnhefaaGreatDoor
open Go.RowKit
set_option linter.unusedVariables false
set_option linter.unusedSimpArgs false

def bcells (l : List UInt8) : List Value := l.map fun b => .int .u8 (b.toNat : Int)
theorem bcells_len (l : List UInt8) : (bcells l).length = l.length := by simp [bcells]
theorem bcells_one (l : List UInt8) : ∀ u ∈ bcells l, u.oneCell' = true := by
  intro u hu; simp only [bcells, List.mem_map] at hu; obtain ⟨b, _, rfl⟩ := hu; rfl
theorem bcells_get {l : List UInt8} {j : Nat} {u : Value} (h : (bcells l)[j]? = some u) : ∃ b, l[j]? = some b ∧ u = .int .u8 (b.toNat : Int) := by
  simp only [bcells, List.getElem?_map, Option.map_eq_some_iff] at h
  obtain ⟨b, h1, h2⟩ := h
  exact ⟨b, h1, h2.symm⟩

/-- block g, of cap bytes, begins with the bytes l -/
def BRow (w : World) (g cap : Nat) (l : List UInt8) : Prop :=
  ∃ cur fr, w.heap[g]? = some (.cells cur 5 fr) ∧ cur.size = cap ∧ (cap ≤ fr.1 ∨ fr.2 ≤ fr.1) ∧ cap ≤ maxLen ∧ cur.toList.take l.length = bcells l ∧ l.length ≤ cap
section
variable {w w' : World} {g cap : Nat} {l : List UInt8} {S : Nat → Prop}
theorem BRow.lt (h : BRow w g cap l) : g < w.heap.size := by
  obtain ⟨cur, fr, h, _⟩ := h
  exact (Array.getElem?_eq_some_iff.1 h).1
theorem BRow.only (h : BRow w g cap l) (ho : Only S w w') (hg : ¬ S g) : BRow w' g cap l := by
  have hlt := h.lt
  obtain ⟨cur, fr, h, r⟩ := h
  exact ⟨cur, fr, (ho.same g hlt hg).trans h, r⟩
theorem BRow.cellAny (h : BRow w g cap l) (j : Nat) (hj : j < cap) : (w.cell? ⟨g, j, none⟩).isSome = true := by
  obtain ⟨cur, fr, h, hs, _⟩ := h
  rw [cell_of_row w g j cur _ fr h, Array.getElem?_eq_getElem (by omega)]
  rfl
theorem BRow.frozen (h : BRow w g cap l) (j : Nat) (hj : j < cap) : w.frozen? ⟨g, j, none⟩ = false := by
  obtain ⟨cur, fr, h, hs, hf, _⟩ := h
  simp only [World.frozen?, h]
  simp
  omega
theorem BRow.get (h : BRow w g cap l) (j : Nat) (b : UInt8) (hb : l[j]? = some b) : w.cell? ⟨g, j, none⟩ = some (.int .u8 (b.toNat : Int)) := by
  obtain ⟨cur, fr, h, hs, _, _, ht, hl⟩ := h
  have hj := (List.getElem?_eq_some_iff.1 hb).1
  rw [cell_of_row w g j cur _ fr h, ← Array.getElem?_toList, ← List.getElem?_take_of_lt hj, ht]
  simp [bcells, hb]
theorem setCells_size (g : Nat) : ∀ (vs : List Value) (o : Nat) (w : World), (w.setCells g o vs).heap.size = w.heap.size
  | [], o, w => rfl
  | v :: vs, o, w => (setCells_size g vs (o + 1) _).trans (by simp [World.setCell])
theorem setCells_at (g : Nat) (t : TypeId) (fr : Nat × Nat) : ∀ (vs : List Value) (cs : List Value) (o : Nat) (w : World), w.heap[g]? = some (.cells cs.toArray t fr) → (w.setCells g o vs).heap[g]? = some (.cells (setL cs o vs).toArray t fr)
  | [], cs, o, w, h => h
  | v :: vs, cs, o, w, h => setCells_at g t fr vs (cs.set o v) (o + 1) _ (by simp [World.setCell, Array.getElem?_modify, h])
theorem setL_take (vs cs : List Value) (n : Nat) (h : n + vs.length ≤ cs.length) : (setL cs n vs).take (n + vs.length) = cs.take n ++ vs := by
  apply List.ext_getElem?
  intro i
  have hl : (cs.take n).length = n := by simp; omega
  by_cases hi : i < n + vs.length
  · rw [List.getElem?_take_of_lt hi, setL_get vs cs n i h]
    by_cases h2 : n ≤ i
    · rw [if_pos ⟨h2, hi⟩, List.getElem?_append_right (by omega), hl]
    · rw [if_neg (by omega), List.getElem?_append_left (by omega), List.getElem?_take_of_lt (by omega)]
  · rw [List.getElem?_eq_none (by simp; omega), List.getElem?_eq_none (by simp; omega)]
theorem bcells_append (a b : List UInt8) : bcells (a ++ b) = bcells a ++ bcells b := by simp [bcells]
theorem Only.of_setCells (g : Nat) (vs : List Value) (o : Nat) (w : World) : Only (· = g) w (w.setCells g o vs) := Only.puts (S := (· = g)) w (fun _ => rfl) vs o w (Only.refl (· = g) w)
/-- bytes written behind those that are there -/
theorem BRow.write (h : BRow w g cap l) (m : List UInt8) (hm : l.length + m.length ≤ cap) : BRow (w.setCells g l.length (bcells m)) g cap (l ++ m) := by
  obtain ⟨cur, fr, h, hs, hf, hc, ht, hl⟩ := h
  have e := setCells_at g _ fr (bcells m) cur.toList l.length w (by simpa using h)
  refine ⟨_, fr, e, ?_, hf, hc, ?_, by simpa using hm⟩
  · rw [List.size_toArray, setL_len, Array.length_toList, hs]
  · have hsz : cur.toList.length = cap := by rw [Array.length_toList, hs]
    have := setL_take (bcells m) cur.toList l.length (by rw [bcells_len]; omega)
    rw [bcells_len] at this
    rw [List.length_append, this, ht, bcells_append]
theorem zeroCells_eq (n : Nat) : Builtin.zeroCells (Value.int .u8 0).cells n = (bcells (List.replicate n 0)).toArray := by
  apply Array.ext'
  apply List.ext_getElem
  · simp [Builtin.zeroCells, Value.cells, bcells]
  · intro i h1 h2
    simp [Builtin.zeroCells, Value.cells, bcells, Nat.mod_one]
theorem brow_new (w : World) (l rest : List UInt8) (h : l.length + rest.length ≤ maxLen) : BRow (w.alloc (.cells (bcells (l ++ rest)).toArray 5)) w.heap.size (l.length + rest.length) l := by
  refine ⟨_, (0, 0), heap_alloc_new w _, by simp [bcells], .inr (Nat.le_refl _), h, ?_, by omega⟩
  rw [bcells_append]
  simp only [List.append_toArray]
  rw [List.take_left' (by simp [bcells])]
theorem Tryz.infoB : (Tryz.prog.info? 5).map (fun i => (i.zero, i.size, i.bytes)) = some (some (.int .u8 0), 1, 1) := by kernel_rfl
/-- append of a slice that lies elsewhere -/
theorem app_bytes (ty : TypeId) (h : BRow w g cap l) (a : Addr) (m c : Nat) (news : List UInt8) (hl : news.length = m) (hn : ∀ j b, news[j]? = some b → w.cell? (a.add j) = some (.int .u8 (b.toNat : Int))) (h47 : l.length + m ≤ 140737488355328) :
    ∃ g' cap' w', (Builtin.append_ #[46, 46] ty #[.slice (some ⟨g, 0, none⟩) l.length cap, .slice (some a) m c]).run Tryz.prog w = .ok (.slice (some ⟨g', 0, none⟩) (l.length + m) cap') w' ∧ BRow w' g' cap' (l ++ news) ∧ Only (· = g) w w' ∧ (g' = g ∨ g' = w.heap.size) := by
  obtain ⟨i, hi, hz, hs, hb⟩ := info_parts Tryz.infoB
  have hn' : ∀ j u, (bcells news)[j]? = some u → w.cell? (a.add j) = some u := fun j u hu => by
    obtain ⟨b, h1, rfl⟩ := bcells_get hu
    exact hn j b h1
  have hln : (bcells news).length = m * i.size := by rw [bcells_len, hl, hs, Nat.mul_one]
  by_cases hroom : l.length + m ≤ cap
  · refine ⟨g, cap, _, run_append_room_cells (P := Tryz.prog) w _ ty _ i Tryz.underlying46 hi g 0 l.length cap a m c (bcells news) hln hn' (bcells_one news) hroom ?_ ?_, ?_, ?_, .inl rfl⟩
    · intro j hj; rw [bcells_len] at hj; rw [hs]; exact h.cellAny _ (by omega)
    · intro j hj; rw [bcells_len] at hj; rw [hs]; exact h.frozen _ (by omega)
    · rw [hs, Nat.zero_add, Nat.mul_one]; exact h.write news (by omega)
    · exact Only.of_setCells _ _ _ _
  · have hold : (Builtin.firstCells i.size l.length (.slice (some ⟨g, 0, none⟩) l.length cap)).run Tryz.prog w.drew = .ok (bcells l).toArray w.drew := by
      refine run_firstCells_some (P := Tryz.prog) w.drew i.size l.length ⟨g, 0, none⟩ l.length cap (bcells l) (by rw [bcells_len, hs, Nat.mul_one]) (fun j v hv => ?_)
      obtain ⟨b, h1, rfl⟩ := bcells_get hv
      rw [Addr.add_lit, Nat.zero_add]
      exact h.get j b h1
    have hsrc : Src Tryz.prog i.size 46 (.slice (some a) m c) m (bcells news) w := Src.ofSlice w Tryz.underlying46 a m c (bcells news) hln hn' (bcells_one news)
    have hge := grownCap_ge w (l.length + m) cap 5
    have hle := grownCap_le_maxLen w (l.length + m) cap 5 (by unfold maxLen; omega)
    have hr := run_append_grow_src (P := Tryz.prog) w _ 46 ty _ i _ Tryz.underlying46 hi hz (some ⟨g, 0, none⟩) l.length cap (bcells l) hold _ m (bcells news) hsrc (by omega) (by omega) (growslice_fits (by omega) (by rw [hb]; omega))
    have hbn := brow_new w.drew (l ++ news) (List.replicate (grownCap w (l.length + m) cap 5 - (l.length + m)) 0) (by simp [hl]; omega)
    refine ⟨_, _, _, hr, ?_, ?_, .inr rfl⟩
    · have e : ((bcells l ++ bcells news).toArray ++ Builtin.zeroCells (Value.int .u8 0).cells (grownCap w (l.length + m) cap 5 - (l.length + m))) = (bcells (l ++ news ++ List.replicate (grownCap w (l.length + m) cap 5 - (l.length + m)) 0)).toArray := by
        rw [zeroCells_eq, bcells_append, bcells_append]; simp
      rw [e]
      have e2 : (l ++ news).length + (List.replicate (grownCap w (l.length + m) cap 5 - (l.length + m)) (0 : UInt8)).length = grownCap w (l.length + m) cap 5 := by simp [hl]; omega
      rw [e2] at hbn
      exact hbn
    · exact ((Only.refl (· = g) w).drew).alloc _
/-- append of zeros -/
theorem app_zeros (ty : TypeId) (h : BRow w g cap l) (k : Nat) (h47 : l.length + k ≤ 140737488355328) :
    ∃ g' cap' w', (Builtin.append_ #[46, 3] ty #[.slice (some ⟨g, 0, none⟩) l.length cap, .int .i64 k]).run Tryz.prog w = .ok (.slice (some ⟨g', 0, none⟩) (l.length + k) cap') w' ∧ BRow w' g' cap' (l ++ List.replicate k 0) ∧ Only (· = g) w w' ∧ (g' = g ∨ g' = w.heap.size) := by
  obtain ⟨i, hi, hz, hs, hb⟩ := info_parts Tryz.infoB
  have hw : IntKind.i64.wrap (k : Int) = k := by rw [IntKind.wrap_i64]; omega
  have hneg : ¬ ((k : Int) < 0) := by omega
  have h48i : ¬ (281474976710656 < (k : Int) * (i.bytes : Int)) := by rw [hb]; omega
  by_cases hroom : l.length + k ≤ cap
  · have hst := run_storeCells_cells (P := Tryz.prog) g l.length (bcells (List.replicate k 0)) 0 w (fun j hj => by rw [bcells_len, List.length_replicate] at hj; exact h.cellAny _ (by omega)) (fun j hj => by rw [bcells_len, List.length_replicate] at hj; exact h.frozen _ (by omega)) (bcells_one _)
    simp only [Nat.add_zero] at hst
    refine ⟨g, cap, w.setCells g l.length (bcells (List.replicate k 0)), ?_, h.write _ (by simpa using hroom), Only.of_setCells _ _ _ _, .inl rfl⟩
    have hzr := zeroCells_eq k
    rcases Nat.eq_zero_or_pos k with h0 | h0
    · subst h0
      simp [Builtin.append_, run_underlying Tryz.underlying46, run_underlying Tryz.underlying3, sizeOf, typeInfo, zeroValue, hi, hz, asInt, asIntOf, hs, hb, IntKind.wrap_i64, bcells, World.setCells, storeCells, hroom]
      try omega
    · have hns : ¬ (k * i.size = 0) := Nat.mul_ne_zero (by omega) (by omega)
      simp [Builtin.append_, run_underlying Tryz.underlying46, run_underlying Tryz.underlying3, sizeOf, typeInfo, zeroValue, hi, hz, asInt, asIntOf, hw, hneg, hns, h48i, hs, hroom, hzr, Addr.add_lit, hst]
      try (intro h; omega)
  · have hlc : l.length ≤ cap := by obtain ⟨_, _, _, _, _, _, _, hl⟩ := h; exact hl
    have hold : (Builtin.firstCells i.size l.length (.slice (some ⟨g, 0, none⟩) l.length cap)).run Tryz.prog w.drew = .ok (bcells l).toArray w.drew := by
      refine run_firstCells_some (P := Tryz.prog) w.drew i.size l.length ⟨g, 0, none⟩ l.length cap (bcells l) (by rw [bcells_len, hs, Nat.mul_one]) (fun j v hv => ?_)
      obtain ⟨b, h1, rfl⟩ := bcells_get hv
      rw [Addr.add_lit, Nat.zero_add]
      exact h.get j b h1
    have hge := grownCap_ge w (l.length + k) cap 5
    have hle := grownCap_le_maxLen w (l.length + k) cap 5 (by unfold maxLen; omega)
    have hr := Go.Lib.run_append_grow_zeros (P := Tryz.prog) w 46 3 ty _ i _ .i64 .i64 Tryz.underlying46 Tryz.underlying3 hi hz (some ⟨g, 0, none⟩) l.length cap (bcells l) hold k (by omega) (by omega) (by omega) (by omega) (by rw [hb]; omega) (growslice_fits (by omega) (by rw [hb]; omega))
    have hbn := brow_new w.drew (l ++ List.replicate k 0) (List.replicate (grownCap w (l.length + k) cap 5 - (l.length + k)) 0) (by simp; omega)
    refine ⟨_, _, _, hr, ?_, ?_, .inr rfl⟩
    · have e : ((bcells l).toArray ++ Builtin.zeroCells (Value.int .u8 0).cells k ++ Builtin.zeroCells (Value.int .u8 0).cells (grownCap w (l.length + k) cap 5 - (l.length + k))) = (bcells (l ++ List.replicate k 0 ++ List.replicate (grownCap w (l.length + k) cap 5 - (l.length + k)) 0)).toArray := by
        rw [zeroCells_eq, zeroCells_eq, bcells_append, bcells_append]; simp
      rw [e]
      have e2 : (l ++ List.replicate k (0 : UInt8)).length + (List.replicate (grownCap w (l.length + k) cap 5 - (l.length + k)) (0 : UInt8)).length = grownCap w (l.length + k) cap 5 := by simp; omega
      rw [e2] at hbn
      exact hbn
    · exact ((Only.refl (· = g) w).drew).alloc _
end
/-- the row behind []byte(s) -/
theorem conv_brow (w : World) (s : ByteArray) (h47 : s.size ≤ 140737488355328) :
    ∃ cap, (convert 9 46 (.string s)).run Tryz.prog w = .ok (.slice (some ⟨w.heap.size, 0, none⟩) s.data.toList.length cap) (Go.Lib.bytesWorld w 5 s) ∧ BRow (Go.Lib.bytesWorld w 5 s) w.heap.size cap s.data.toList ∧ Only (fun _ => False) w (Go.Lib.bytesWorld w 5 s) := by
  have hsz : s.data.toList.length = s.size := Array.length_toList
  have hge := grownCap_ge w s.size 0 5
  have hle := grownCap_le_maxLen w s.size 0 5 (by unfold maxLen; omega)
  refine ⟨grownCap w s.size 0 5, ?_, ?_, ?_⟩
  · rw [hsz]
    exact Go.Lib.run_convert_string_bytes (P := Tryz.prog) w _ _ _ s Tryz.underlying9 Tryz.underlying46 Tryz.underlying5
  · have hcs : (Go.Lib.bytesCells w 5 s).size = grownCap w s.size 0 5 := by
      have e : s.data.size = s.size := rfl
      unfold Go.Lib.bytesCells
      rw [Array.size_append, Array.size_map, Array.size_replicate, e]
      omega
    refine ⟨_, _, Go.Lib.bytesWorld_at_new w _ s, hcs, .inl ?_, hle, ?_, by rw [hsz]; exact hge⟩
    · rw [hcs]; exact Nat.le_refl _
    · unfold Go.Lib.bytesCells bcells
      rw [Array.toList_append, Array.toList_map, List.take_left' (by simp)]
  · refine ⟨?_, ?_, ?_, ?_, ?_⟩
    · simp [Go.Lib.bytesWorld, World.freeze, World.alloc, World.drew, -World.alloc_eq, -World.drew_eq]
    · simp [Go.Lib.bytesWorld, World.freeze, World.alloc, World.drew, -World.alloc_eq, -World.drew_eq]
    · simp [Go.Lib.bytesWorld, World.freeze, World.alloc, World.drew, -World.alloc_eq, -World.drew_eq]
    · rw [Go.Lib.bytesWorld_size]; omega
    · intro j hj _; exact Go.Lib.bytesWorld_at_old w _ s j hj
end Go.Proofs.YtoekhpnapnhefaaGreatDoor

namespace Go.Proofs.YtoekhpnapnhefaaGreatDoor
open Go.RowKit
set_option linter.unusedVariables false
set_option linter.unusedSimpArgs false

theorem by_num (y : Int) : ((UInt8.ofNat (y % 256).toNat).toNat : Int) = y % 256 := by
  have : (y % 256).toNat < 256 := by omega
  rw [UInt8.toNat_ofNat']
  omega
theorem bcells_by4 (x : Int) : bcells (by4 x) = [.int .u8 (x / 16777216 % 256), .int .u8 (x / 65536 % 256), .int .u8 (x / 256 % 256), .int .u8 (x % 256)] := by
  simp only [bcells, by4, List.map_cons, List.map_nil, by_num]
theorem At.bytes {w : World} {g : Nat} {t : TypeId} {l : List UInt8} (h : At w g t (bcells l)) : BytesAt w g 0 l := fun j b hj => h.cell (i := 0 + j) (by rw [Nat.zero_add, bcells, List.getElem?_map, hj]; rfl)

theorem bytes_any (x : Int) (w : World) :
    Calls Tryz.prog 132 #[.int .u32 x] w fun e w' => e = .returned (.slice (some ⟨w.heap.size, 0, none⟩) 4 4) ∧ At w' w.heap.size 5 (bcells (by4 x)) ∧ Only (fun _ => False) w w' ∧ w'.heap.size = w.heap.size + 1 := by
  go_enter Tryz.func132, Tryz.ntmps132
  go_wp2_with fail
  go_ret
  refine ⟨rfl, ?_, (Only.refl _ w).alloc _, by simp⟩
  rw [bcells_by4]
  exact At.new w _ _
def ivZ : List Value := List.replicate 8 (Value.int .u32 0)
theorem zero8 (w : World) : (zeroValue 161).run Tryz.prog w = .ok (.agg ivZ.toArray) w := by kernel_rfl
theorem info8 : (Tryz.prog.info? 161).map (·.size) = some 8 := by kernel_rfl
theorem infoS (s : S8) : (Tryz.prog.info? 161).map (·.size) = some (u32s s.l).length := info8
theorem start_any (w : World) :
    Calls Tryz.prog 133 #[] w fun e w' => e = .returned (.agg (u32s iv.l).toArray) ∧ Only (fun _ => False) w w' := by
  have H1 := Lib.hid (u32s_one iv.l)
  have L8 : ivZ.length = (u32s iv.l).length := by decide
  go_enter Tryz.func133, Tryz.ntmps133
  go_wp2_with (first | (with_reducible refine wpl_alloc_all rfl _ rfl _ (zero8 _) ?_; intro w1 h1 o1 s1) | (with_reducible refine wpl_build rfl _ _ rfl (.agg (u32s iv.l).toArray) (by kernel_rfl) ?_) |
    (refine wpl_store_all rfl 161 (.tmp 0) (.tmp 1) rfl w.heap.size 161 ivZ (u32s iv.l) rfl rfl h1 L8 (infoS iv) H1.out ?_; intro w2 h2 o2 s2))
  refine bodyPost_ret (results_all rfl _ w.heap.size rfl _ _ _ h2 Tryz.underlying161 rfl (infoS iv)) rfl ⟨rfl, ?_⟩
  exact (o1.mono (T := fun i => w.heap.size ≤ i) (fun _ _ h => h.elim)).trans (o2.mono (T := fun i => w.heap.size ≤ i) (fun i _ h => by omega)) (fun i _ h => h) |>.mono (fun i hi h => by omega)
theorem chunk_any (v : Value) (w : World) (g n c : Nat) (hv : v = .slice (some ⟨g, 0, none⟩) n c) :
    Calls Tryz.prog 134 #[v, .int .i64 64] w fun e w' => ∃ Bs Bn, e = .returned (.func (.func 157) #[] #[.pointer (some ⟨Bs, 0, none⟩), .pointer (some ⟨Bn, 0, none⟩)]) ∧ w.heap.size ≤ Bs ∧ w.heap.size ≤ Bn ∧ Bs < w'.heap.size ∧ Bn < w'.heap.size ∧ w'.cell? ⟨Bs, 0, none⟩ = some v ∧ w'.cell? ⟨Bn, 0, none⟩ = some (.int .i64 64) ∧ Only (fun _ => False) w w' := by
  subst hv
  go_enter Tryz.func134, Tryz.ntmps134
  go_wp2_with fail
  go_ret
  have a1 := At.new w 46 [.slice (some ⟨g, 0, none⟩) n c]
  have a2 := At.new (w.alloc (.cells #[.slice (some ⟨g, 0, none⟩) n c] 46)) 3 [.int .i64 64]
  have o2 := (Only.refl (fun _ => False) (w.alloc (.cells #[.slice (some ⟨g, 0, none⟩) n c] 46))).alloc (.cells #[.int .i64 64] 3)
  have e2 : (w.alloc (.cells #[.slice (some ⟨g, 0, none⟩) n c] 46)).heap.size = w.heap.size + 1 := by simp
  rw [e2] at a2
  exact ⟨_, _, rfl, Nat.le_refl _, by simp, by simp; omega, by simp, (a1.only o2 (fun h => h)).cell (i := 0) rfl, a2.cell (i := 0) rfl, ((Only.refl _ w).alloc _).alloc _⟩
end Go.Proofs.YtoekhpnapnhefaaGreatDoor

namespace Go.Proofs.YtoekhpnapnhefaaGreatDoor
open Go.RowKit Go.Shelf
set_option linter.unusedVariables false
set_option linter.unusedSimpArgs false

def z32 : List Value := List.replicate 32 (Value.int .u8 0)
theorem zero32 (w : World) : (zeroValue 138).run Tryz.prog w = .ok (.agg z32.toArray) w := by kernel_rfl
theorem info32 : (Tryz.prog.info? 138).map (·.size) = some 32 := by kernel_rfl

/-- the digest so far, laid over zeros -/
def outW (l : List Int) : Nat → List Value
  | 0 => z32
  | i + 1 => setL (outW l i) (4 * i) (bcells (by4 (l.getD i 0)))
theorem outW_len (l : List Int) : ∀ i, (outW l i).length = 32
  | 0 => rfl
  | i + 1 => by rw [outW, setL_len, outW_len l i]
theorem by4_form (x : Int) : ∃ a b c d, by4 x = [a, b, c, d] := ⟨_, _, _, _, rfl⟩
theorem outW_end (s : S8) : outW s.l 8 = bcells s.out := by
  have e : outW s.l 8 = setL (setL (setL (setL (setL (setL (setL (setL z32 0 (bcells (by4 s.a))) 4 (bcells (by4 s.b))) 8 (bcells (by4 s.c))) 12 (bcells (by4 s.d))) 16 (bcells (by4 s.e))) 20 (bcells (by4 s.f))) 24 (bcells (by4 s.g))) 28 (bcells (by4 s.h)) := by
    simp only [outW, S8.l]
    simp only [List.getD_cons_zero, List.getD_cons_succ, Nat.mul_zero, Nat.reduceMul, Nat.mul_one]
  rw [e]
  unfold S8.out
  obtain ⟨a1, a2, a3, a4, ea⟩ := by4_form s.a
  obtain ⟨b1, b2, b3, b4, eb⟩ := by4_form s.b
  obtain ⟨c1, c2, c3, c4, ec⟩ := by4_form s.c
  obtain ⟨d1, d2, d3, d4, ed⟩ := by4_form s.d
  obtain ⟨e1, e2, e3, e4, ee⟩ := by4_form s.e
  obtain ⟨f1, f2, f3, f4, ef⟩ := by4_form s.f
  obtain ⟨g1, g2, g3, g4, eg⟩ := by4_form s.g
  obtain ⟨h1, h2, h3, h4, eh⟩ := by4_form s.h
  rw [ea, eb, ec, ed, ee, ef, eg, eh]
  have hz : z32 = [Value.int .u8 0, Value.int .u8 0, Value.int .u8 0, Value.int .u8 0, Value.int .u8 0, Value.int .u8 0, Value.int .u8 0, Value.int .u8 0, Value.int .u8 0, Value.int .u8 0, Value.int .u8 0, Value.int .u8 0, Value.int .u8 0, Value.int .u8 0, Value.int .u8 0, Value.int .u8 0,
    Value.int .u8 0, Value.int .u8 0, Value.int .u8 0, Value.int .u8 0, Value.int .u8 0, Value.int .u8 0, Value.int .u8 0, Value.int .u8 0, Value.int .u8 0, Value.int .u8 0, Value.int .u8 0, Value.int .u8 0, Value.int .u8 0, Value.int .u8 0, Value.int .u8 0, Value.int .u8 0] := rfl
  rw [hz]
  simp only [bcells, List.map_cons, List.map_nil, List.cons_append, List.nil_append]
  generalize Value.int .u8 0 = z
  simp only [setL, List.set_cons_zero, List.set_cons_succ, Nat.reduceAdd]
def chunkOf (M : List UInt8) (x : Nat) : List UInt8 := (M.drop (64 * x)).take 64
def foldB {K : Nat} (M : List UInt8) (pre : List (Fin K)) : S8 := pre.foldl (fun s x => addB s (chunkOf M x.val)) iv
theorem foldB_snoc {K : Nat} (M : List UInt8) (pre : List (Fin K)) (x : Fin K) : foldB M (pre ++ [x]) = addB (foldB M pre) (chunkOf M x.val) := by simp [foldB]
theorem foldB_fins {K : Nat} (M : List UInt8) : ∀ k, k ≤ K → foldB M (fins K k) = blocks M k
  | 0, _ => rfl
  | k + 1, h => by rw [fins_succ h, foldB_snoc, foldB_fins M k (Nat.le_of_lt h)]; rfl
theorem padded_len (l : List UInt8) : ∃ K, (padded l).length = 64 * K := by
  refine ⟨(padded l).length / 64, ?_⟩
  have : (padded l).length = l.length + (1 + padTo l.length) + 8 := by simp [padded, by4]; omega
  rw [this]; unfold padTo; omega
theorem padded_eq (l : List UInt8) (hi lo : Int) (h1 : hi = ((l.length * 8 / 4294967296 : Nat) : Int)) (h2 : lo = ((l.length * 8 % 4294967296 : Nat) : Int)) : l ++ [0x80] ++ List.replicate (padTo l.length) 0 ++ by4 hi ++ by4 lo = padded l := by
  subst h1 h2; simp [padded]
theorem own_at {β : Type} {g : Nat} {t : TypeId} (f : β → List Value) : Own (fun (s : β) W => At W g t (f s)) := fun s W W' row hs hg hr =>
  hs.grown hg (fun e => by obtain ⟨o, h1, h2⟩ := hr g e; rw [hs] at h1; cases h1; cases h2)
theorem own_row {β : Type} {g cap : Nat} {l : List UInt8} : Own (fun (_ : β) W => BRow W g cap l) := fun s W W' row hs hg hr => by
  have hlt := hs.lt
  obtain ⟨cur, fr, h, r⟩ := hs
  refine ⟨cur, fr, (hg.block g hlt (fun e => ?_)).trans h, r⟩
  obtain ⟨o, h1, h2⟩ := hr g e.symm
  rw [h] at h1; cases h1; cases h2
theorem ownFrom_only {β : Type} {S : Nat → Prop} {B : Nat} {w0 : World} (hB : w0.heap.size ≤ B) : OwnFrom B (fun (_ : β) W => Only S w0 W) := fun s W W' row hs hg hr =>
  hs.grown hg (fun k e hk => by have := (hr k e).1; omega)
theorem kpG_t {gs n₀ : Nat} {A B C : World} (h : KpG gs n₀ A B) (k : KpG gs n₀ B C) : KpG gs n₀ A C := Only.trans h k (fun _ _ h => h)
theorem kpG_b {gs n₀ : Nat} {w : World} (hn : n₀ ≤ w.heap.size) (W : World) (l : Nat) (o o' : Obj) (h : w.heap.size ≤ l) (h1 : W.heap[l]? = some o) (h2 : o.isCells = false) (h3 : o.isWalk = false) : KpG gs n₀ W (W.putObj l o') :=
  (Only.refl _ W).grown (grownBy_putObj' W l o') (fun k e _ => by cases e; right; omega)

set_option maxRecDepth 100000 in
theorem chunk_stops (F : Fence) (n : Nat) (hF : F.fn 157) (hro : F.round = none) (hn : 1 ≤ n) (Bs Bn n₀ gs g cap K : Nat) (hK : (64 * K : Int) ≤ 9223372036854775807) (hcap : 64 * K ≤ cap) (hcap2 : (cap : Int) ≤ 9223372036854775807) (h1 : Bs < n₀) (h2 : Bn < n₀) (h3 : Bs ≠ gs) (h4 : Bn ≠ gs) (w : World) (hw : n₀ ≤ w.heap.size)
    (hBs : w.cell? ⟨Bs, 0, none⟩ = some (.slice (some ⟨g, 0, none⟩) (64 * K) cap)) (hBn : w.cell? ⟨Bn, 0, none⟩ = some (.int .i64 64)) :
    SeqStopsK F n Tryz.prog 157 #[.pointer (some ⟨Bs, 0, none⟩), .pointer (some ⟨Bn, 0, none⟩)] (fun x : Fin K => #[.slice (some ⟨g, 64 * x.val, none⟩) 64 64]) (KpG gs n₀) (fun ys => ys = fins K K) (fun _ => True) K w := fun l J Jx W hW hJ _ hY h0 => by
  have := chunk1_in F n hF hro hn l Bs Bn n₀ gs g cap K hK hcap hcap2 h1 h2 h3 h4 J Jx (fun pre W h => hJ pre W _ none h ⟨rfl, rfl, rfl, Nat.le_refl _, fun _ _ _ => rfl⟩ (fun _ e => by cases e)) hY W
    ((hW.cell (p := ⟨Bs, 0, none⟩) (by dsimp only; omega)).trans hBs) ((hW.cell (p := ⟨Bn, 0, none⟩) (by dsimp only; omega)).trans hBn) h0
  exact this
end Go.Proofs.YtoekhpnapnhefaaGreatDoor

namespace Go.Proofs.YtoekhpnapnhefaaGreatDoor
open Go.RowKit Go.Shelf
set_option linter.unusedVariables false
set_option linter.unusedSimpArgs false
attribute [local go_sem] Oper.semAt_some

def STOP (p : Prop) : Prop := p
theorem go_stop {p : Prop} (h : STOP p) : p := h
section
variable {ops : Array Oper} {rest : List Oper} {o : Oper} {a : Act} {w : World} {Q : Exit → Act → World → Prop} {g cap : Nat} {l : List UInt8}
theorem wpl_app_bytes (hgd : o.guard = none) (x y : Operand) (ho : o.op = .call { callee := .builtin .append, args := #[x, y], argTypes := #[46, 46] }) (n : Nat) (gb ob : Nat) (m c : Nat) (hx : a.eval x = .slice (some ⟨g, 0, none⟩) n cap) (hy : a.eval y = .slice (some ⟨gb, ob, none⟩) m c)
    (hr : BRow w g cap l) (hn : l.length = n) (news : List UInt8) (hm : news.length = m) (hc : BytesAt w gb ob news) (h47 : n + m ≤ 140737488355328)
    (h : ∀ g' cap' w' n', BRow w' g' cap' (l ++ news) → (l ++ news).length = n' → n' = n + m → Only (· = g) w w' → (g' = g ∨ g' = w.heap.size) → wpList Tryz.prog ops Q rest (a.put o.dst (.slice (some ⟨g', 0, none⟩) n' cap')) w') : wpList Tryz.prog ops Q (o :: rest) a w := by
  subst hn
  obtain ⟨g', cap', w', he, h1, h2, h3⟩ := app_bytes o.type hr ⟨gb, ob, none⟩ m c news hm (fun j u hj => by rw [Addr.add_lit]; exact hc j u hj) h47
  exact Lib.wpList_append_run w hgd x y _ _ ho _ _ hx hy _ _ he (h g' cap' w' _ h1 (by rw [List.length_append, hm]) rfl h2 h3)
theorem wpl_app_zeros (hgd : o.guard = none) (x y : Operand) (ho : o.op = .call { callee := .builtin .append, args := #[x, y], argTypes := #[46, 3] }) (n : Nat) (k : Nat) (hx : a.eval x = .slice (some ⟨g, 0, none⟩) n cap) (hy : a.eval y = .int .i64 k)
    (hr : BRow w g cap l) (hn : l.length = n) (h47 : n + k ≤ 140737488355328)
    (h : ∀ g' cap' w' n', BRow w' g' cap' (l ++ List.replicate k 0) → (l ++ List.replicate k (0 : UInt8)).length = n' → n' = n + k → Only (· = g) w w' → (g' = g ∨ g' = w.heap.size) → wpList Tryz.prog ops Q rest (a.put o.dst (.slice (some ⟨g', 0, none⟩) n' cap')) w') : wpList Tryz.prog ops Q (o :: rest) a w := by
  subst hn
  obtain ⟨g', cap', w', he, h1, h2, h3⟩ := app_zeros o.type hr k h47
  exact Lib.wpList_append_run w hgd x y _ _ ho _ _ hx hy _ _ he (h g' cap' w' _ h1 (by rw [List.length_append, List.length_replicate]) rfl h2 h3)
end
theorem one_bytes {w : World} (b : UInt8) (v : Value) (hv : v = .int .u8 (b.toNat : Int)) : BytesAt (w.alloc (.cells #[v] 5)) w.heap.size 0 [b] := by
  subst hv; exact At.bytes (l := [b]) (At.new w _ _)

theorem pad_fact {n sz : Nat} (h : n = sz + 1) : ∃ k : Nat, k = padTo sz ∧ (120 - (n : Int) % 64) % 64 = (k : Int) ∧ k < 64 := ⟨_, rfl, by rw [h]; unfold padTo; omega, by unfold padTo; omega⟩
/-- the message so far -/
structure Sg (w W : World) (g cap : Nat) (l : List UInt8) (n : Nat) : Prop where
  row : BRow W g cap l
  len : l.length = n
  out : At W w.heap.size 138 z32
  own : Only (fun _ => False) w W
  gt : w.heap.size < g
theorem Sg.next {w W W' : World} {g cap g' cap' n n' : Nat} {l l' : List UInt8} (h : Sg w W g cap l n) (br : BRow W' g' cap' l') (hl : l'.length = n') (o : Only (· = g) W W') (hg : g' = g ∨ g' = W.heap.size) : Sg w W' g' cap' l' n' :=
  ⟨br, hl, h.out.only o (by have := h.gt; omega), h.own.trans (o.mono (T := fun i => w.heap.size ≤ i) (fun i _ e => by have := h.gt; omega)) (fun i hi e => by omega), by have := h.gt; have := h.row.lt; omega⟩
theorem Sg.keep {w W W' : World} {g cap n : Nat} {l : List UInt8} (h : Sg w W g cap l n) (o : Only (fun _ => False) W W') : Sg w W' g cap l n :=
  ⟨h.row.only o (fun h => h), h.len, h.out.only o (fun h => h), h.own.trans o (fun _ _ h => h), h.gt⟩
theorem Sg.alloc {w W : World} {g cap n : Nat} {l : List UInt8} (h : Sg w W g cap l n) (o : Obj) : Sg w (W.alloc o) g cap l n := h.keep ((Only.refl _ W).alloc o)

theorem msg_done {w W : World} {g cap n k : Nat} {l : List UInt8} {sz : Nat} (h : Sg w W g cap (l ++ [0x80] ++ List.replicate k 0 ++ by4 ((sz : Int) * 8 / 4294967296) ++ by4 ((sz : Int) * 8 % 4294967296)) n) (hk : k = padTo sz) (hsz : l.length = sz) : Sg w W g cap (padded l) n := by
  subst hk hsz
  rw [padded_eq l _ _ (by omega) (by omega)] at h
  exact h
theorem BRow.cap {w : World} {g cap : Nat} {l : List UInt8} (h : BRow w g cap l) : (cap : Int) ≤ 9223372036854775807 := by
  obtain ⟨_, _, _, _, _, h, _⟩ := h; unfold maxLen at h; omega
theorem BRow.room {w : World} {g cap : Nat} {l : List UInt8} (h : BRow w g cap l) : l.length ≤ cap := by
  obtain ⟨_, _, _, _, _, _, _, h⟩ := h; exact h
theorem chunk_len {M : List UInt8} {K x : Nat} (h : M.length = 64 * K) (hx : x < K) : (chunkOf M x).length = 64 := by
  unfold chunkOf; rw [List.length_take, List.length_drop, h]; omega
theorem chunk_bytes {W : World} {g cap : Nat} {M : List UInt8} (h : BRow W g cap M) (x : Nat) : BytesAt W g (64 * x) (chunkOf M x) := fun j b hj => by
  unfold chunkOf at hj
  have hl := (List.getElem?_eq_some_iff.1 hj).1
  rw [List.length_take] at hl
  rw [List.getElem?_take_of_lt (by omega), List.getElem?_drop] at hj
  exact h.get _ b hj
theorem keepsOthers_of_only {W W' : World} {g : Nat} {t : TypeId} {cs : List Value} (h : Only (· = g) W W') (hA : At W g t cs) : KeepsOthers W W' :=
  ⟨h.size, fun k o hk ho => (h.same k (Array.getElem?_eq_some_iff.1 hk).1 (fun e => by subst e; rw [hA] at hk; cases hk; cases ho)).trans hk⟩
theorem infoB1 : (Tryz.prog.info? 5).map (·.size) = some 1 := by kernel_rfl
theorem copy_word {wr w' : World} {gO gb i : Nat} {t : TypeId} {cs : List Value} {x : Int} (hO : At wr gO t cs) (hl : cs.length = 32) (hi : i < 8) (q : Only (fun _ => False) wr w') (hb : At w' gb 5 (bcells (by4 x))) (ty : TypeId) :
    (Builtin.copy_ #[46, 46] ty #[.slice (some ⟨gO, 4 * i, none⟩) (32 - 4 * i) (32 - 4 * i), .slice (some ⟨gb, 0, none⟩) 4 4]).run Tryz.prog w' = .ok (goInt 4) (w'.setCells gO (4 * i) (bcells (by4 x))) := by
  have hO' := hO.only q (fun h => h)
  have h4 : (bcells (by4 x)).length = 4 := rfl
  refine run_copy_cells (P := Tryz.prog) w' _ _ ty _ gO (4 * i) (32 - 4 * i) (32 - 4 * i) ⟨gb, 0, none⟩ 4 4 (bcells (by4 x)) Tryz.underlying46 infoB1 (by rw [h4]; show 4 = min 4 (32 - 4 * i); omega) (fun j v hv => by rw [Addr.add_lit, Nat.zero_add]; exact hb.cell hv) (fun j hj => ?_) (fun j hj => hO'.frozen _) (bcells_one _)
  rw [h4] at hj
  have hj' : 4 * i + j < cs.length := by omega
  rw [hO'.cell (List.getElem?_eq_getElem hj')]; rfl
theorem arr32 : Tryz.prog.underlying 138 = some (.array (Tryz.prog.arrayLen 138) (Tryz.prog.elem 138)) := by kernel_rfl
theorem arrLen32 : Tryz.prog.arrayLen 138 = 32 := by kernel_rfl
theorem arrElem32 : Tryz.prog.elem 138 = 5 := by kernel_rfl
theorem slice_out (g i : Nat) (hi : i < 8) (w : World) : (Instr.sliceAt 138 (.pointer (some ⟨g, 0, none⟩)) (some (.int .i64 (4 * (i : Int)))) none none).run Tryz.prog w = .ok (.slice (some ⟨g, 4 * i, none⟩) (32 - 4 * i) (32 - 4 * i)) w := by
  rw [run_sliceAt_array_l (P := Tryz.prog) w _ ⟨g, 0, none⟩ arr32 .i64 (4 * (i : Int)) (by omega) (by rw [arrLen32]; omega), arrElem32, Tryz.sizeOf5, arrLen32]
  have e : (4 * (i : Int)).toNat = 4 * i := by omega
  simp only [Result.andThen_ok, slicedAt, e, if_neg (show ¬ 32 = 4 * i by omega), Addr.add_lit, Nat.mul_one, Nat.zero_add]
theorem Sg.put {w W W' W'' : World} {g cap n : Nat} {l : List UInt8} (h0 : Sg w W g cap l n) (h : Sg w W' g cap l n) (o : Only (· = W.heap.size) W' W'') (hz : W'.heap.size = W.heap.size + 1) : Sg w W'' g cap l n :=
  ⟨h.row.only o (by have := h0.row.lt; omega), h.len, h.out.only o (by have := h0.out.lt; omega), h.own.trans (o.mono (T := fun i => w.heap.size ≤ i) (fun i _ e => by have := h0.own.size; omega)) (fun i hi e => by omega), h.gt⟩

set_option maxRecDepth 100000 in
set_option maxHeartbeats 4000000 in
theorem sum_any (s : ByteArray) (w : World) (hs : s.size ≤ 140737488354000) :
    Calls Tryz.prog 105 #[.string s] w fun e w' => e = .returned (.agg (bcells (sha s.data.toList)).toArray) ∧ Only (fun _ => False) w w' := by
  refine (callsIn_wide (n := 9)).1 (callsIn_of_wp_marks Tryz.func105 rfl trivial (wpIn_wide.2 ?_) rfl)
  simp only [Tryz.ntmps105, List.size_toArray, List.length_cons, List.length_nil, Nat.reduceAdd, Nat.reduceSub, Array.replicate_succ, Array.replicate_zero, List.push_toArray, List.append_toArray, List.nil_append, List.cons_append]
  have HSZ : Hid (s.data.toList.length = s.size) := Lib.hid Array.length_toList
  go_wp2_with (first | (with_reducible refine wpl_alloc_all (o := ⟨some 2, _, _, _, _, _⟩) rfl _ rfl _ (zero32 _) ?_; intro w1 h1 o1 s1; obtain ⟨cap, hcv, hbr, hol⟩ := conv_brow w1 s (by omega); rw [s1] at hbr; have SG := Lib.hid (Sg.mk hbr HSZ.out (h1.only hol (fun h => h)) (o1.trans hol (fun _ _ h => h)) (Nat.lt_succ_self _)); clear h1 o1 hbr hol; generalize Lib.bytesWorld w1 5 s = w2 at hcv SG) |
    (refine wpl_app_bytes (o := ⟨some 13, _, _, _, _, _⟩) rfl (.tmp 11) (.tmp 12) rfl s.size w2.heap.size 0 1 1 rfl rfl (SG.out.alloc _).row HSZ.out [0x80] rfl (one_bytes (w := w2) 0x80 _ rfl) (by omega) ?_; intro g3 cap3 w3 n3 br3 hl3 hn3 o3 hg3; have S3 := Lib.hid ((SG.out.alloc _).next br3 hl3 o3 hg3); obtain ⟨k, hk1, hk2, hk3⟩ := pad_fact hn3; have HK := Lib.hid hk1; have HK3 := Lib.hid hk3; clear hk3; have HN3 := Lib.hid hn3; clear br3 hl3 hn3 o3 hg3 hk1 hcv SG s1) |
    (refine wpl_app_zeros (o := ⟨some 20, _, _, _, _, _⟩) rfl (.tmp 14) (.tmp 19) rfl n3 k rfl (congrArg (Value.int IntKind.i64) hk2) S3.out.row S3.out.len (by have := HN3.out; have := HK3.out; omega) ?_; intro g4 cap4 w4 n4 br4 hl4 hn4 o4 hg4; have S4 := Lib.hid (S3.out.next br4 hl4 o4 hg4); have HN4 := Lib.hid hn4; clear br4 hl4 hn4 o4 hg4 S3))
  refine (bytes_any _ w4).mono ?_
  rintro e w5 ⟨rfl, h5, o5, _⟩
  have S5 := Lib.hid (S4.out.keep o5)
  have HB5 := Lib.hid h5.bytes
  clear h5 o5 S4
  go_wp2_with (refine wpl_app_bytes (o := ⟨some 30, _, _, _, _, _⟩) rfl (.tmp 25) (.tmp 29) rfl n4 w4.heap.size 0 4 4 rfl rfl S5.out.row S5.out.len (by4 _) rfl HB5.out (by have := HN3.out; have := HN4.out; have := HK3.out; omega) ?_; intro g6 cap6 w6 n6 br6 hl6 hn6 o6 hg6; have S6 := Lib.hid (S5.out.next br6 hl6 o6 hg6); have HN6 := Lib.hid hn6; clear br6 hl6 hn6 o6 hg6 S5 HB5)
  refine (bytes_any _ w6).mono ?_
  rintro e w7 ⟨rfl, h7, o7, _⟩
  have S7 := Lib.hid (S6.out.keep o7)
  have HB7 := Lib.hid h7.bytes
  clear h7 o7 S6
  go_wp2_with (refine wpl_app_bytes (o := ⟨some 34, _, _, _, _, _⟩) rfl (.tmp 30) (.tmp 33) rfl n6 w6.heap.size 0 4 4 rfl rfl S7.out.row S7.out.len (by4 _) rfl HB7.out (by have := HN3.out; have := HN4.out; have := HN6.out; have := HK3.out; omega) ?_; intro g8 cap8 w8 n8 br8 hl8 hn8 o8 hg8; have S8 := Lib.hid (msg_done (S7.out.next br8 hl8 o8 hg8) HK.out HSZ.out); have HN8 := Lib.hid hn8; clear br8 hl8 hn8 o8 hg8 S7 HB7)
  obtain ⟨K, hK⟩ := padded_len s.data.toList
  obtain rfl : n8 = 64 * K := by have := S8.out.len; omega
  have HKB := Lib.hid (show (64 * K : Int) ≤ 9223372036854775807 by have := HN3.out; have := HN4.out; have := HN6.out; have := HN8.out; have := HK3.out; omega)
  have HKL := Lib.hid hK
  clear hK HN8 HN6 HN4 HN3 HK3 HK hk2
  refine (start_any w8).mono ?_
  rintro e w9 ⟨rfl, o9⟩
  have S9 := Lib.hid (S8.out.keep o9)
  clear o9 S8
  have L8 := Lib.hid (show ivZ.length = (u32s iv.l).length by decide)
  have HU := Lib.hid (u32s_one iv.l)
  go_wp2_with (first | (with_reducible refine wpl_alloc_all (o := ⟨some 5, _, _, _, _, _⟩) rfl _ rfl _ (zero8 _) ?_; intro w10 h10 o10 s10; have H10 := Lib.hid h10; have S10 := Lib.hid (S9.out.keep o10); have Z10 := Lib.hid s10; clear h10 o10 s10) |
    (refine wpl_store_all rfl 161 (.tmp 5) (.tmp 35) rfl w9.heap.size 161 ivZ (u32s iv.l) rfl rfl H10.out L8.out (infoS iv) HU.out ?_; intro w11 h11 o11 s11; have H11 := Lib.hid h11; have S11 := Lib.hid (Sg.put S9.out S10.out o11 Z10.out); clear h11 o11 H10 L8 HU))
  refine (chunk_any _ w11 g8 (64 * K) cap8 rfl).mono ?_
  rintro e w12 ⟨Bs, Bn, rfl, b1, b2, b3, b4, c1, c2, o12⟩
  have S12 := Lib.hid (S11.out.keep o12)
  have H12 := Lib.hid (H11.out.only o12 (fun h => h))
  have C1 := Lib.hid c1
  have C2 := Lib.hid c2
  have Z9 := Lib.hid (show w9.heap.size < w12.heap.size ∧ w9.heap.size ≠ Bs ∧ w9.heap.size ≠ Bn ∧ w.heap.size < w9.heap.size ∧ g8 < w9.heap.size by have := S9.out.row.lt; have := S9.out.out.lt; have := H11.out.lt; have := H12.out.lt; omega)
  have B3 := Lib.hid b3
  have B4 := Lib.hid b4
  clear b1 b2 b3 b4 c1 c2 o12 S11 H11 S10 Z10 S9 s11
  obtain ⟨gs, hgs⟩ : ∃ gs, gs = w9.heap.size := ⟨_, rfl⟩
  rw [← hgs] at H12 Z9 ⊢
  clear hgs
  go_wp2_with fail
  have hcap : (cap8 : Int) ≤ 9223372036854775807 := S12.out.row.cap
  refine' wpIn_wide.1 (wpIn_rangeFunc_ownF (F := Fence.wide) (n := 9) rfl (by decide) (gf := 157) (lb := #[.pointer (some ⟨Bs, 0, none⟩), .pointer (some ⟨Bn, 0, none⟩)]) rfl trivial (enters_of Tryz.func157 (by kernel_rfl) rfl)
    (chunk_stops Fence.wide 8 trivial rfl (by decide) Bs Bn w12.heap.size gs g8 cap8 K HKB.out (by have := S12.out.row.room; have := HKL.out; omega) hcap B3.out B4.out (by have := Z9.out; omega) (by have := Z9.out; omega) w12 (Nat.le_refl _) C1.out C2.out) kpG_t (kpG_b (Nat.le_refl _)) (Below.refl _ _) (fun _ => rfl)
    (fun pre W => At W gs 161 (u32s (foldB (padded s.data.toList) pre).l) ∧ BRow W g8 cap8 (padded s.data.toList) ∧ Only (· = gs) w12 W) (fun _ _ _ => False)
    (OwnFrom.and (Own.from (own_at (fun pre => u32s (foldB (padded s.data.toList) pre).l)) _) (OwnFrom.and (Own.from own_row _) (ownFrom_only (Nat.le_refl _)))) (fun _ _ _ _ _ h _ _ => h) ⟨H12.out, S12.out.row, Only.refl _ _⟩ _ ?assign ?body ?done ?stop)
  case stop => rintro D c pre W _ _ h _; exact h.elim
  case assign =>
    intro l x W K hK
    gi_wp2
    exact hK
  case body =>
    rintro l pre x W ⟨hA, hR, hO⟩ hlen
    have HA := Lib.hid hA
    have HR := Lib.hid hR
    have HO := Lib.hid hO
    have AD := Lib.hid (dadd_any gs g8 (64 * x.val) 64 64 (foldB (padded s.data.toList) pre) (chunkOf (padded s.data.toList) x.val) W (Nat.le_refl _) (Nat.le_refl _) (by omega) (chunk_len HKL.out x.isLt) (chunk_bytes hR x.val) hA (by have := Z9.out; omega))
    clear hA hR hO
    gi_wp2_with (refine ⟨trivial, ?_⟩; gi_at_call 135; refine (CallsIn.inRound l (callsIn_wide.2 AD.out)).mono ?_; rintro e W1 ⟨rfl, hA1, ho1⟩)
    exact ⟨keepsOthers_of_only ho1 HA.out, ho1.mono (fun _ _ h => .inl h), by rw [foldB_snoc]; exact hA1, HR.out.only ho1 (by have := Z9.out; omega), HO.out.trans ho1 (fun _ _ h => h)⟩
  case done =>
    rintro D ys W hD rfl ⟨hA, hR, hO⟩ hK
    rw [foldB_fins _ K (Nat.le_refl _)] at hA
    have HU1 := Lib.hid (S12.out.own.trans (hO.mono (T := fun i => w.heap.size ≤ i) (fun i _ e => by have := Z9.out; omega)) (fun i hi e => by omega))
    have HZ1 := Lib.hid (S12.out.out.only hO (by have := Z9.out; omega))
    have HSH : Hid (bcells (sha s.data.toList) = outW (blocks (padded s.data.toList) K).l 8) := Lib.hid (by rw [outW_end]; unfold sha; rw [HKL.out, Nat.mul_div_cancel_left _ (by omega)])
    have HA := Lib.hid hA
    have HD := Lib.hid hK
    have ZW := Lib.hid (show gs < W.heap.size ∧ w.heap.size < gs ∧ D < W.heap.size ∧ w.heap.size < D from ⟨hA.lt, Z9.out.2.2.2.1, (Array.getElem?_eq_some_iff.1 hK).1, by have := Z9.out; omega⟩)
    clear hA hR hO S12 C1 C2 B3 B4 H12 hcap Z9 HKL HKB HSZ
    generalize blocks (padded s.data.toList) K = st at *
    go_wp2_with (first | (with_reducible refine wpl_alloc_all (o := ⟨some 7, _, _, _, _, _⟩) rfl _ rfl _ (zero32 _) ?_; intro W1 a1 q1 z1; have A1 := Lib.hid a1; have Q1 := Lib.hid q1; clear a1 q1) |
      (refine wpl_load_all (o := ⟨some 41, _, _, _, _, _⟩) rfl 161 (.tmp 5) rfl gs rfl 161 (u32s st.l) _ (HA.out.only Q1.out (fun h => h)) Tryz.underlying161 rfl (infoS st) ?_))
    have HU := Lib.hid (HU1.out.trans Q1.out (fun _ _ h => h.elim))
    have HZ := Lib.hid (HZ1.out.only Q1.out (fun h => h))
    have HD1 := Lib.hid ((Q1.out.same D ZW.out.2.2.1 (fun h => h)).trans HD.out)
    clear HU1 HZ1 HD hK HA Q1 z1
    go_loopw [42] (fun iv wr => ∃ i : Nat, i ≤ 8 ∧ iv = .int .i64 i ∧ Hid (At wr W.heap.size 138 (outW st.l i)) ∧ Hid (At wr w.heap.size 138 z32) ∧ Hid (Only (fun _ => False) w wr) ∧ Hid (wr.heap[D]? = some (.deferred (some [])))) (fun iv _ => 8 - (intOf iv).toNat)
    case atStart => exact ⟨0, by omega, rfl, A1.out, HZ.out, HU.out, HD1.out⟩
    case round =>
      clear A1 HZ HU HD1
      obtain ⟨i, hi, rfl, hO, hZ, hU, hD1⟩ := hrel
      by_cases hlt : i < 8
      · have hv : (u32s st.l)[i]? = some (.int .u32 (st.l.getD i 0)) := by
          have : i < st.l.length := hlt
          simp [u32s, List.getD_eq_getElem?_getD, this]
        have HV := Lib.hid hv
        have NO := Lib.hid (show outW st.l (i + 1) = setL (outW st.l i) (4 * i) (bcells (by4 (st.l.getD i 0))) from rfl)
        clear hv
        generalize st.l.getD i 0 = x at *
        have i1 : (i : Int) < 8 := by omega
        have i2 : (4 : Int) * (i : Int) ≤ 32 := by omega
        have i3 : IntKind.i64.wrap (4 * (i : Int)) = 4 * (i : Int) := by rw [IntKind.wrap_i64]; omega
        go_wp2_with (refine wpl_index rfl 161 (.tmp 41) (.tmp 42) rfl (u32s st.l) .i64 i rfl rfl Tryz.underlying161 (Tryz.sizeOf160 _) (Tryz.isAgg160 _) hlt _ HV.out ?_)
        have SL := fun w => slice_out W.heap.size i hlt w
        first | (go_region_with (go_at_call 132; refine (bytes_any _ _).mono ?_; rintro e w' ⟨rfl, hb, ob, zb⟩; have q := ((Only.refl (fun _ => False) wr).drewN _).trans ob (fun _ _ h => h); have CP := copy_word (gb := wr.heap.size) hO.out (outW_len st.l i) hlt (((Only.refl (fun _ => False) wr).drewN _).trans ob (fun _ _ h => h)) hb)) | skip
        all_goals go_wp2_with fail
        all_goals
          refine ⟨⟨i + 1, by omega, by go_num, ?_, ?_, ?_, ?_⟩, by simp [intOf]; omega⟩
          · rw [NO.out]; exact (hO.out.only q (fun h => h)).puts _ _ _ _
          · exact (hZ.out.only q (fun h => h)).only (Only.of_setCells _ _ _ _) (by have := ZW.out; omega)
          · exact (hU.out.trans q (fun _ _ h => h)).trans (Only.of_setCells _ _ _ _) (fun k hk e => by have := ZW.out; omega)
          · have d1 := (q.same D (Array.getElem?_eq_some_iff.1 hD1.out).1 (fun h => h)).trans hD1.out
            exact ((Only.of_setCells W.heap.size (bcells (by4 x)) (4 * i) w').same D (Array.getElem?_eq_some_iff.1 d1).1 (by have := ZW.out; omega)).trans d1
      · obtain rfl : i = 8 := by omega
        have L0 := Lib.hid (show z32.length = (outW st.l 8).length by rw [outW_len]; rfl)
        have I0 := Lib.hid (show (Tryz.prog.info? 138).map (·.size) = some (outW st.l 8).length by rw [outW_len]; exact info32)
        have V0 := Lib.hid (show ∀ v ∈ outW st.l 8, v.oneCell' = true by rw [← HSH.out]; exact bcells_one _)
        obtain ⟨ow, how⟩ : ∃ ow, ow = outW st.l 8 := ⟨_, rfl⟩
        rw [← how] at hO HSH L0 I0 V0
        clear how
        go_wp2_with (first | (refine wpl_load_all (o := ⟨some 53, _, _, _, _, _⟩) rfl 138 (.tmp 7) rfl W.heap.size rfl 138 ow _ hO.out Tryz.underlying138 rfl I0.out ?_) |
          (refine wpl_store_all rfl 138 (.tmp 2) (.tmp 53) rfl w.heap.size 138 z32 ow rfl rfl hZ.out L0.out I0.out V0.out ?_; intro wy hy oy sy; have HY := Lib.hid hy; have OY := Lib.hid oy; clear hy oy sy))
        have hKy := (OY.out.same D (Array.getElem?_eq_some_iff.1 hD1.out).1 (by have := ZW.out; omega)).trans hD1.out
        refine ⟨by simp, .inl ⟨_, _, rfl, run_takeDeferred hKy, ?_⟩⟩
        have gb := grownBy_putObj' wy D (.deferred none)
        refine ⟨_, results_all rfl _ w.heap.size rfl _ _ _ (HY.out.grown gb (fun e => by have := ZW.out; cases e; omega)) Tryz.underlying138 rfl I0.out, ?_, ?_⟩
        · rw [HSH.out]
        · exact (hU.out.trans OY.out (fun k hk e => by omega)).grown gb (fun k e hk => by have := ZW.out; cases e; omega)
end Go.Proofs.YtoekhpnapnhefaaGreatDoor

namespace Go.Proofs.YtoekhpnapnhefaaGreatDoor
open Go.RowKit
set_option linter.unusedVariables false
set_option linter.unusedSimpArgs false

/-- the first bytes as a number, as the code has it -/
def accN (l : List UInt8) : Nat → Int
  | 0 => 0
  | k + 1 => bits .or .u64 (IntKind.u64.wrap (accN l k * 256)) (IntKind.u64.wrap ((l.getD k 0).toNat : Int))
def numH (l : List UInt8) : Int := wrap64 (bits .and .u64 (accN l 8) 9223372036854775807)
theorem bcells_cell {l : List UInt8} {k : Nat} (h : k < l.length) : (bcells l)[k]? = some (.int .u8 ((l.getD k 0).toNat : Int)) := by
  simp [bcells, List.getD_eq_getElem?_getD, h]
set_option maxRecDepth 100000 in
set_option maxHeartbeats 1000000 in
theorem number_any (l : List UInt8) (hl : l.length = 32) (w : World) :
    Calls Tryz.prog 104 #[.agg (bcells l).toArray] w fun e w' => e = .returned (.int .i64 (numH l)) ∧ Only (fun _ => False) w w' := by
  have HL := Lib.hid hl
  clear hl
  have H0 := Lib.hid (At.new w 138 (bcells l))
  have O0 := Lib.hid ((Only.refl (fun _ => False) w).alloc (.cells (bcells l).toArray 138))
  go_enter Tryz.func104, Tryz.ntmps104
  go_wp2_with fail
  go_loopw [3, 5] (fun a iv wr => ∃ k : Nat, k ≤ 8 ∧ a = .int .u64 (accN l k) ∧ iv = .int .i64 k ∧ Hid (At wr w.heap.size 138 (bcells l)) ∧ Hid (Only (fun _ => False) w wr)) (fun _ iv _ => 8 - (intOf iv).toNat)
  case atStart => exact ⟨0, by omega, rfl, rfl, H0.out, O0.out⟩
  case round =>
    clear H0 O0
    obtain ⟨k, hk, rfl, rfl, hA, hO⟩ := hrel
    by_cases hlt : k < 8
    · have c := hA.out.cell (bcells_cell (k := k) (by rw [HL.out]; omega))
      have NX := Lib.hid (show accN l (k + 1) = bits .or .u64 (IntKind.u64.wrap (accN l k * 256)) (IntKind.u64.wrap ((l.getD k 0).toNat : Int)) from rfl)
      generalize l.getD k 0 = b at *
      generalize accN l k = x at *
      have i1 : (k : Int) < 8 := by omega
      go_wp2_with fail
      go_roundw
      case rel => exact ⟨k + 1, by omega, by rw [NX.out], by go_num, hA.out, hO.out⟩
      case measure => simp [intOf]; omega
    · obtain rfl : k = 8 := by omega
      have NX := Lib.hid (show numH l = wrap64 (bits .and .u64 (accN l 8) 9223372036854775807) from rfl)
      generalize accN l 8 = x at *
      go_wp2_with fail
      go_ret
      exact ⟨by rw [NX.out]; rfl, hO.out⟩
end Go.Proofs.YtoekhpnapnhefaaGreatDoor

namespace Go.Proofs.YtoekhpnapnhefaaGreatDoor
open Go.RowKit
set_option linter.unusedVariables false
set_option linter.unusedSimpArgs false

theorem sha_len (l : List UInt8) : (sha l).length = 32 := rfl
/-- a number modulo Q out of a text -/
def scal (l : List UInt8) : Int := numH (sha ([115, 47] ++ l)) % 1152921504606845789
theorem scal_range (l : List UInt8) : 0 ≤ scal l ∧ scal l < 1152921504606845789 := by unfold scal; omega
theorem numH_range (l : List UInt8) : -9223372036854775808 ≤ numH l ∧ numH l ≤ 9223372036854775807 := by
  unfold numH wrap64; omega
theorem scalar_any (s : ByteArray) (w : World) (hs : s.size ≤ 140737488353000) :
    Calls Tryz.prog 53 #[.string s] w fun e w' => e = .returned (.int .i64 (scal s.data.toList)) ∧ Only (fun _ => False) w w' := by
  obtain ⟨t, ht⟩ : ∃ t, t = (⟨#[115, 47]⟩ : ByteArray) ++ s := ⟨_, rfl⟩
  have hz : t.size ≤ 140737488354000 := by rw [ht, ByteArray.size_append]; show 2 + s.size ≤ _; omega
  have hl : t.data.toList = [115, 47] ++ s.data.toList := by rw [ht, ByteArray.data_append]; simp
  have SM := Lib.hid (sum_any t)
  have HZ := Lib.hid hz
  have HT := Lib.hid ht.symm
  have HS := Lib.hid (show scal s.data.toList = numH (sha t.data.toList) % 1152921504606845789 by rw [hl]; rfl)
  have HR := Lib.hid (numH_range (sha t.data.toList))
  have HN := Lib.hid (number_any (sha t.data.toList) (sha_len _))
  have hneg : ¬ (9223372036854775807 < 2 + s.size) := by omega
  clear hz hl hs ht
  go_enter Tryz.func53, Tryz.ntmps53
  go_wp2_with fail
  rw [HT.out]
  refine (SM.out _ HZ.out).mono ?_
  rintro e w1 ⟨rfl, o1⟩
  generalize sha t.data.toList = h at *
  go_wp2_with fail
  refine (HN.out _).mono ?_
  rintro e w2 ⟨rfl, o2⟩
  go_wp2_with fail
  refine (residue_any _ _ _ (by omega) (by omega) HR.out.1 HR.out.2).mono ?_
  rintro e w3 ⟨rfl, rfl⟩
  go_wp2_with fail
  go_ret
  exact ⟨by rw [HS.out]; rfl, o1.trans o2 (fun _ _ h => h)⟩
end Go.Proofs.YtoekhpnapnhefaaGreatDoor
