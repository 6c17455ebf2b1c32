/-
  SHA-256: bytes, start, the maker of the iterator: contracts.
-/
import Derived.Test.YtjmdfipofgmakaaDoorSl
import Derived.Test.YtjmdfipofgmakaaDoorBy
namespace Go.Proofs.YtjmdfipofgmakaaDoor
open Go.RowKit
set_option linter.unusedVariables false
set_option linter.unusedSimpArgs false

theorem by_num (y : Int) : ((UInt8.ofNat (y % 256).toNat).toNat : Int) = y % 256 := by
  have : (y % 256).toNat < 256 := by omega
  rw [UInt8.toNat_ofNat']
  omega
theorem bcells_by4 (x : Int) : bcells (by4 x) = [.int .u8 (x / 16777216 % 256), .int .u8 (x / 65536 % 256), .int .u8 (x / 256 % 256), .int .u8 (x % 256)] := by
  simp only [bcells, by4, List.map_cons, List.map_nil, by_num]
theorem At.bytes {w : World} {g : Nat} {t : TypeId} {l : List UInt8} (h : At w g t (bcells l)) : BytesAt w g 0 l := fun j b hj => h.cell (i := 0 + j) (by rw [Nat.zero_add, bcells, List.getElem?_map, hj]; rfl)

theorem bytes_any (x : Int) (w : World) :
    Calls Tryd.prog 122 #[.int .u32 x] w fun e w' => e = .returned (.slice (some ⟨w.heap.size, 0, none⟩) 4 4) ∧ At w' w.heap.size 5 (bcells (by4 x)) ∧ Only (fun _ => False) w w' ∧ w'.heap.size = w.heap.size + 1 := by
  go_enter Tryd.func122, Tryd.ntmps122
  go_wp2_with fail
  go_ret
  refine ⟨rfl, ?_, (Only.refl _ w).alloc _, by simp⟩
  rw [bcells_by4]
  exact At.new w _ _
def ivZ : List Value := List.replicate 8 (Value.int .u32 0)
theorem zero8 (w : World) : (zeroValue 140).run Tryd.prog w = .ok (.agg ivZ.toArray) w := by kernel_rfl
theorem info8 : (Tryd.prog.info? 140).map (·.size) = some 8 := by kernel_rfl
theorem infoS (s : S8) : (Tryd.prog.info? 140).map (·.size) = some (u32s s.l).length := info8
theorem start_any (w : World) :
    Calls Tryd.prog 123 #[] w fun e w' => e = .returned (.agg (u32s iv.l).toArray) ∧ Only (fun _ => False) w w' := by
  have H1 := Lib.hid (u32s_one iv.l)
  have L8 : ivZ.length = (u32s iv.l).length := by decide
  go_enter Tryd.func123, Tryd.ntmps123
  go_wp2_with (first | (with_reducible refine wpl_alloc_all rfl _ rfl _ (zero8 _) ?_; intro w1 h1 o1 s1) | (with_reducible refine wpl_build rfl _ _ rfl (.agg (u32s iv.l).toArray) (by kernel_rfl) ?_) |
    (refine wpl_store_all rfl 140 (.tmp 0) (.tmp 1) rfl w.heap.size 140 ivZ (u32s iv.l) rfl rfl h1 L8 (infoS iv) H1.out ?_; intro w2 h2 o2 s2))
  refine bodyPost_ret (results_all rfl _ w.heap.size rfl _ _ _ h2 Tryd.underlying140 rfl (infoS iv)) rfl ⟨rfl, ?_⟩
  exact (o1.mono (T := fun i => w.heap.size ≤ i) (fun _ _ h => h.elim)).trans (o2.mono (T := fun i => w.heap.size ≤ i) (fun i _ h => by omega)) (fun i _ h => h) |>.mono (fun i hi h => by omega)
theorem chunk_any (v : Value) (w : World) (g n c : Nat) (hv : v = .slice (some ⟨g, 0, none⟩) n c) :
    Calls Tryd.prog 124 #[v, .int .i64 64] w fun e w' => ∃ Bs Bn, e = .returned (.func (.func 141) #[] #[.pointer (some ⟨Bs, 0, none⟩), .pointer (some ⟨Bn, 0, none⟩)]) ∧ w.heap.size ≤ Bs ∧ w.heap.size ≤ Bn ∧ Bs < w'.heap.size ∧ Bn < w'.heap.size ∧ w'.cell? ⟨Bs, 0, none⟩ = some v ∧ w'.cell? ⟨Bn, 0, none⟩ = some (.int .i64 64) ∧ Only (fun _ => False) w w' := by
  subst hv
  go_enter Tryd.func124, Tryd.ntmps124
  go_wp2_with fail
  go_ret
  have a1 := At.new w 69 [.slice (some ⟨g, 0, none⟩) n c]
  have a2 := At.new (w.alloc (.cells #[.slice (some ⟨g, 0, none⟩) n c] 69)) 3 [.int .i64 64]
  have o2 := (Only.refl (fun _ => False) (w.alloc (.cells #[.slice (some ⟨g, 0, none⟩) n c] 69))).alloc (.cells #[.int .i64 64] 3)
  have e2 : (w.alloc (.cells #[.slice (some ⟨g, 0, none⟩) n c] 69)).heap.size = w.heap.size + 1 := by simp
  rw [e2] at a2
  exact ⟨_, _, rfl, Nat.le_refl _, by simp, by simp; omega, by simp, (a1.only o2 (fun h => h)).cell (i := 0) rfl, a2.cell (i := 0) rfl, ((Only.refl _ w).alloc _).alloc _⟩
end Go.Proofs.YtjmdfipofgmakaaDoor
