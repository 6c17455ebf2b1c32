/-
  SHA-256: the small functions of package digest: contracts.
-/
import Derived.Test.YtjmdfipofgmakaaDoorGa
import Derived.Test.YtjmdfipofgmakaaDoorRw
import Derived.Test.YtjmdfipofgmakaaDoorSh
namespace Go.Proofs.YtjmdfipofgmakaaDoor
open Go.RowKit
set_option linter.unusedVariables false
set_option linter.unusedSimpArgs false
def u32s (l : List Int) : List Value := l.map (Value.int .u32)
theorem u32s_one (l : List Int) : ∀ v ∈ u32s l, v.oneCell' = true := by intro v hv; simp only [u32s, List.mem_map] at hv; obtain ⟨x, _, rfl⟩ := hv; rfl
def zeros : List Value := List.replicate 64 (Value.int .u32 0)
theorem zero64 (w : World) : (zeroValue 165).run Tryd.prog w = .ok (.agg zeros.toArray) w := by kernel_rfl
theorem info64 : (Tryd.prog.info? 165).map (·.size) = some 64 := by kernel_rfl
theorem rounds_any (w : World) :
    Calls Tryd.prog 143 #[] w fun e w' => e = .returned (.agg (u32s kTab).toArray) ∧ Only (fun _ => False) w w' := by
  have I64 : (Tryd.prog.info? 165).map (·.size) = some (u32s kTab).length := info64
  have L64 : zeros.length = (u32s kTab).length := by decide
  have H1 := Lib.hid (u32s_one kTab)
  go_enter Tryd.func143, Tryd.ntmps143
  go_wp2_with (first | (with_reducible refine wpl_alloc_all rfl _ rfl _ (zero64 _) ?_; intro w1 h1 o1 s1) | (with_reducible refine wpl_build rfl _ _ rfl (.agg (u32s kTab).toArray) (by kernel_rfl) ?_) |
    (refine wpl_store_all rfl 165 (.tmp 0) (.tmp 1) rfl w.heap.size 165 zeros (u32s kTab) rfl rfl h1 L64 I64 H1.out ?_; intro w2 h2 o2 s2))
  refine bodyPost_ret (results_all rfl _ w.heap.size rfl _ _ _ h2 Tryd.underlying165 rfl I64) rfl ⟨rfl, ?_⟩
  exact (o1.mono (T := fun i => w.heap.size ≤ i) (fun _ _ h => h.elim)).trans (o2.mono (T := fun i => w.heap.size ≤ i) (fun i _ h => by omega)) (fun i _ h => h) |>.mono (fun i hi h => by omega)
theorem rrounds_any (w : World) :
    Calls Tryd.prog 145 #[] w fun e w' => e = .returned (.agg (u32s kTab).toArray) ∧ Only (fun _ => False) w w' := by
  have I64 : (Tryd.prog.info? 165).map (·.size) = some (u32s kTab).length := info64
  have L64 : zeros.length = (u32s kTab).length := by decide
  have H1 := Lib.hid (u32s_one kTab)
  go_enter Tryd.func145, Tryd.ntmps145
  go_wp2_with (first | (with_reducible refine wpl_alloc_all rfl _ rfl _ (zero64 _) ?_; intro w1 h1 o1 s1) | (with_reducible refine wpl_build rfl _ _ rfl (.agg (u32s kTab).toArray) (by kernel_rfl) ?_) |
    (refine wpl_store_all rfl 165 (.tmp 0) (.tmp 1) rfl w.heap.size 165 zeros (u32s kTab) rfl rfl h1 L64 I64 H1.out ?_; intro w2 h2 o2 s2))
  refine bodyPost_ret (results_all rfl _ w.heap.size rfl _ _ _ h2 Tryd.underlying165 rfl I64) rfl ⟨rfl, ?_⟩
  exact (o1.mono (T := fun i => w.heap.size ≤ i) (fun _ _ h => h.elim)).trans (o2.mono (T := fun i => w.heap.size ≤ i) (fun i _ h => by omega)) (fun i _ h => h) |>.mono (fun i hi h => by omega)

theorem ret_u32 {a b : Int} (h : a = b) : Ending.returned (.int .u32 a) = .returned (.int .u32 b) := by rw [h]
/-- a number of bytes in a slice that may be anywhere -/
def BytesAt (w : World) (g o : Nat) (l : List UInt8) : Prop := ∀ j b, l[j]? = some b → w.cell? ⟨g, o + j, none⟩ = some (.int .u8 (b.toNat : Int))

theorem u8_le (b : UInt8) : (b.toNat : Int) ≤ 255 := by have := b.toNat_lt; omega
theorem word_any (g o n c : Nat) (x0 x1 x2 x3 : UInt8) (w : World) (hn : 4 ≤ n) (h0 : w.cell? ⟨g, o, none⟩ = some (.int .u8 (x0.toNat : Int))) (h1 : w.cell? ⟨g, o + 1, none⟩ = some (.int .u8 (x1.toNat : Int))) (h2 : w.cell? ⟨g, o + 2, none⟩ = some (.int .u8 (x2.toNat : Int))) (h3 : w.cell? ⟨g, o + 3, none⟩ = some (.int .u8 (x3.toNat : Int))) :
    Calls Tryd.prog 167 #[.slice (some ⟨g, o, none⟩) n c] w fun e w' => e = .returned (.int .u32 (be4 x0 x1 x2 x3)) ∧ ∃ n, w' = w.drewN n := by
  have b0 := u8_le x0
  have b1 := u8_le x1
  have b2 := u8_le x2
  have b3 := u8_le x3
  have i0 : (0 : Int) < (n : Int) := by omega
  have i1 : (1 : Int) < (n : Int) := by omega
  have i2 : (2 : Int) < (n : Int) := by omega
  have i3 : (3 : Int) < (n : Int) := by omega
  go_enter Tryd.func167, Tryd.ntmps167
  go_wp2_with fail
  go_quiet (fail)
  go_wp2_with fail
  go_ret
  exact ⟨rfl, _, rfl⟩

/-- a rotation to the left by s, as the walk has it -/
theorem rotl_any (x k : Int) (s : Nat) (w : World) (hs : s ≤ 31) (hk : bits BinOp.and IntKind.u64 (IntKind.u64.wrap k) 31 = (s : Int)) :
    Calls Tryd.prog 168 #[.int .u32 x, .int .i64 k] w fun e w' => e = .returned (.int .u32 (bo (wr (x * 2 ^ s)) (x / 2 ^ (32 - s)))) ∧ w = w' := by
  go_enter Tryd.func168, Tryd.ntmps168
  go_wp2_with fail
  go_ret
  exact ⟨rfl, rfl⟩
theorem bo_comm (a b : Int) : bo a b = bo b a := by unfold bo bits; simp only [BitVec.or_comm]
theorem rot_any (x k : Int) (n : Nat) (w : World) (h1 : 1 ≤ n) (h2 : n ≤ 31) (hk : k = -(n : Int)) :
    Calls Tryd.prog 168 #[.int .u32 x, .int .i64 k] w fun e w' => e = .returned (.int .u32 (rr x n)) ∧ w = w' := by
  have e : bits BinOp.and IntKind.u64 (IntKind.u64.wrap k) 31 = ((32 - n : Nat) : Int) := by
    have : ∀ n : Fin 32, 1 ≤ n.val → bits BinOp.and IntKind.u64 (IntKind.u64.wrap (-(n.val : Int))) 31 = ((32 - n.val : Nat) : Int) := by decide +kernel
    rw [hk]; exact this ⟨n, by omega⟩ h1
  refine (rotl_any x k (32 - n) w (by omega) e).mono ?_
  rintro e w' ⟨rfl, rfl⟩
  exact ⟨ret_u32 (by rw [bo_comm, show 32 - (32 - n) = n by omega]; rfl), rfl⟩
theorem mixed_any (x a b c : Int) (i j k : Nat) (w : World) (h1 : 1 ≤ i) (h2 : i ≤ 31) (h3 : 1 ≤ j) (h4 : j ≤ 31) (h5 : 1 ≤ k) (h6 : k ≤ 31) (ha : a = (i : Int)) (hb : b = (j : Int)) (hc : c = (k : Int)) :
    Calls Tryd.prog 144 #[.int .u32 x, .int .i64 a, .int .i64 b, .int .i64 c] w fun e w' => e = .returned (.int .u32 (bx (bx (rr x i) (rr x j)) (rr x k))) ∧ w = w' := by
  subst ha hb hc
  go_enter Tryd.func144, Tryd.ntmps144
  go_wp2_with fail
  refine (rot_any x _ i _ h1 h2 (by omega)).mono ?_
  rintro e w' ⟨rfl, rfl⟩
  go_wp2_with fail
  refine (rot_any x _ j _ h3 h4 (by omega)).mono ?_
  rintro e w' ⟨rfl, rfl⟩
  go_wp2_with fail
  refine (rot_any x _ k _ h5 h6 (by omega)).mono ?_
  rintro e w' ⟨rfl, rfl⟩
  go_wp2_with fail
  go_ret
  exact ⟨rfl, rfl⟩
end Go.Proofs.YtjmdfipofgmakaaDoor
