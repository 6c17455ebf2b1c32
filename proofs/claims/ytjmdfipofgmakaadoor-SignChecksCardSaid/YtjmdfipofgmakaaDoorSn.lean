/-
  SHA-256: Sum: contract.
-/
import Derived.Test.YtjmdfipofgmakaaDoorSm
namespace Go.Proofs.YtjmdfipofgmakaaDoor
open Go.RowKit Go.Shelf
set_option linter.unusedVariables false
set_option linter.unusedSimpArgs false

def z32 : List Value := List.replicate 32 (Value.int .u8 0)
theorem zero32 (w : World) : (zeroValue 126).run Tryd.prog w = .ok (.agg z32.toArray) w := by kernel_rfl
theorem info32 : (Tryd.prog.info? 126).map (·.size) = some 32 := by kernel_rfl

/-- the digest so far, laid over zeros -/
def outW (l : List Int) : Nat → List Value
  | 0 => z32
  | i + 1 => setL (outW l i) (4 * i) (bcells (by4 (l.getD i 0)))
theorem outW_len (l : List Int) : ∀ i, (outW l i).length = 32
  | 0 => rfl
  | i + 1 => by rw [outW, setL_len, outW_len l i]
theorem by4_form (x : Int) : ∃ a b c d, by4 x = [a, b, c, d] := ⟨_, _, _, _, rfl⟩
theorem outW_end (s : S8) : outW s.l 8 = bcells s.out := by
  have e : outW s.l 8 = setL (setL (setL (setL (setL (setL (setL (setL z32 0 (bcells (by4 s.a))) 4 (bcells (by4 s.b))) 8 (bcells (by4 s.c))) 12 (bcells (by4 s.d))) 16 (bcells (by4 s.e))) 20 (bcells (by4 s.f))) 24 (bcells (by4 s.g))) 28 (bcells (by4 s.h)) := by
    simp only [outW, S8.l]
    simp only [List.getD_cons_zero, List.getD_cons_succ, Nat.mul_zero, Nat.reduceMul, Nat.mul_one]
  rw [e]
  unfold S8.out
  obtain ⟨a1, a2, a3, a4, ea⟩ := by4_form s.a
  obtain ⟨b1, b2, b3, b4, eb⟩ := by4_form s.b
  obtain ⟨c1, c2, c3, c4, ec⟩ := by4_form s.c
  obtain ⟨d1, d2, d3, d4, ed⟩ := by4_form s.d
  obtain ⟨e1, e2, e3, e4, ee⟩ := by4_form s.e
  obtain ⟨f1, f2, f3, f4, ef⟩ := by4_form s.f
  obtain ⟨g1, g2, g3, g4, eg⟩ := by4_form s.g
  obtain ⟨h1, h2, h3, h4, eh⟩ := by4_form s.h
  rw [ea, eb, ec, ed, ee, ef, eg, eh]
  have hz : z32 = [Value.int .u8 0, Value.int .u8 0, Value.int .u8 0, Value.int .u8 0, Value.int .u8 0, Value.int .u8 0, Value.int .u8 0, Value.int .u8 0, Value.int .u8 0, Value.int .u8 0, Value.int .u8 0, Value.int .u8 0, Value.int .u8 0, Value.int .u8 0, Value.int .u8 0, Value.int .u8 0,
    Value.int .u8 0, Value.int .u8 0, Value.int .u8 0, Value.int .u8 0, Value.int .u8 0, Value.int .u8 0, Value.int .u8 0, Value.int .u8 0, Value.int .u8 0, Value.int .u8 0, Value.int .u8 0, Value.int .u8 0, Value.int .u8 0, Value.int .u8 0, Value.int .u8 0, Value.int .u8 0] := rfl
  rw [hz]
  simp only [bcells, List.map_cons, List.map_nil, List.cons_append, List.nil_append]
  generalize Value.int .u8 0 = z
  simp only [setL, List.set_cons_zero, List.set_cons_succ, Nat.reduceAdd]
def chunkOf (M : List UInt8) (x : Nat) : List UInt8 := (M.drop (64 * x)).take 64
def foldB {K : Nat} (M : List UInt8) (pre : List (Fin K)) : S8 := pre.foldl (fun s x => addB s (chunkOf M x.val)) iv
theorem foldB_snoc {K : Nat} (M : List UInt8) (pre : List (Fin K)) (x : Fin K) : foldB M (pre ++ [x]) = addB (foldB M pre) (chunkOf M x.val) := by simp [foldB]
theorem foldB_fins {K : Nat} (M : List UInt8) : ∀ k, k ≤ K → foldB M (fins K k) = blocks M k
  | 0, _ => rfl
  | k + 1, h => by rw [fins_succ h, foldB_snoc, foldB_fins M k (Nat.le_of_lt h)]; rfl
theorem padded_len (l : List UInt8) : ∃ K, (padded l).length = 64 * K := by
  refine ⟨(padded l).length / 64, ?_⟩
  have : (padded l).length = l.length + (1 + padTo l.length) + 8 := by simp [padded, by4]; omega
  rw [this]; unfold padTo; omega
theorem padded_eq (l : List UInt8) (hi lo : Int) (h1 : hi = ((l.length * 8 / 4294967296 : Nat) : Int)) (h2 : lo = ((l.length * 8 % 4294967296 : Nat) : Int)) : l ++ [0x80] ++ List.replicate (padTo l.length) 0 ++ by4 hi ++ by4 lo = padded l := by
  subst h1 h2; simp [padded]
theorem own_at {β : Type} {g : Nat} {t : TypeId} (f : β → List Value) : Own (fun (s : β) W => At W g t (f s)) := fun s W W' row hs hg hr =>
  hs.grown hg (fun e => by obtain ⟨o, h1, h2⟩ := hr g e; rw [hs] at h1; cases h1; cases h2)
theorem own_row {β : Type} {g cap : Nat} {l : List UInt8} : Own (fun (_ : β) W => BRow W g cap l) := fun s W W' row hs hg hr => by
  have hlt := hs.lt
  obtain ⟨cur, fr, h, r⟩ := hs
  refine ⟨cur, fr, (hg.block g hlt (fun e => ?_)).trans h, r⟩
  obtain ⟨o, h1, h2⟩ := hr g e.symm
  rw [h] at h1; cases h1; cases h2
theorem ownFrom_only {β : Type} {S : Nat → Prop} {B : Nat} {w0 : World} (hB : w0.heap.size ≤ B) : OwnFrom B (fun (_ : β) W => Only S w0 W) := fun s W W' row hs hg hr =>
  hs.grown hg (fun k e hk => by have := (hr k e).1; omega)
theorem kpG_t {gs n₀ : Nat} {A B C : World} (h : KpG gs n₀ A B) (k : KpG gs n₀ B C) : KpG gs n₀ A C := Only.trans h k (fun _ _ h => h)
theorem kpG_b {gs n₀ : Nat} {w : World} (hn : n₀ ≤ w.heap.size) (W : World) (l : Nat) (o o' : Obj) (h : w.heap.size ≤ l) (h1 : W.heap[l]? = some o) (h2 : o.isCells = false) (h3 : o.isWalk = false) : KpG gs n₀ W (W.putObj l o') :=
  (Only.refl _ W).grown (grownBy_putObj' W l o') (fun k e _ => by cases e; right; omega)

set_option maxRecDepth 100000 in
theorem chunk_stops (F : Fence) (n : Nat) (hF : F.fn 141) (hro : F.round = none) (hn : 1 ≤ n) (Bs Bn n₀ gs g cap K : Nat) (hK : (64 * K : Int) ≤ 9223372036854775807) (hcap : 64 * K ≤ cap) (hcap2 : (cap : Int) ≤ 9223372036854775807) (h1 : Bs < n₀) (h2 : Bn < n₀) (h3 : Bs ≠ gs) (h4 : Bn ≠ gs) (w : World) (hw : n₀ ≤ w.heap.size)
    (hBs : w.cell? ⟨Bs, 0, none⟩ = some (.slice (some ⟨g, 0, none⟩) (64 * K) cap)) (hBn : w.cell? ⟨Bn, 0, none⟩ = some (.int .i64 64)) :
    SeqStopsK F n Tryd.prog 141 #[.pointer (some ⟨Bs, 0, none⟩), .pointer (some ⟨Bn, 0, none⟩)] (fun x : Fin K => #[.slice (some ⟨g, 64 * x.val, none⟩) 64 64]) (KpG gs n₀) (fun ys => ys = fins K K) (fun _ => True) K w := fun l J Jx W hW hJ _ hY h0 => by
  have := chunk1_in F n hF hro hn l Bs Bn n₀ gs g cap K hK hcap hcap2 h1 h2 h3 h4 J Jx (fun pre W h => hJ pre W _ none h ⟨rfl, rfl, rfl, Nat.le_refl _, fun _ _ _ => rfl⟩ (fun _ e => by cases e)) hY W
    ((hW.cell (p := ⟨Bs, 0, none⟩) (by dsimp only; omega)).trans hBs) ((hW.cell (p := ⟨Bn, 0, none⟩) (by dsimp only; omega)).trans hBn) h0
  exact this
end Go.Proofs.YtjmdfipofgmakaaDoor
