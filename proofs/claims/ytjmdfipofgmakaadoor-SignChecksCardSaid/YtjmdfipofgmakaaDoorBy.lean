/-
  Slices of bytes of the call's own: append, zeros appended; out of a string.
-/
import Derived.Test.YtjmdfipofgmakaaDoorRw
import Derived.Test.YtjmdfipofgmakaaDoorProg
import Derived.ArgAppend
import Derived.Deep.AppendSrc
import Derived.Lib.AppendZerosOnto
import Derived.Lib.ConvBytes
namespace Go.Proofs.YtjmdfipofgmakaaDoor
open Go.RowKit
set_option linter.unusedVariables false
set_option linter.unusedSimpArgs false

def bcells (l : List UInt8) : List Value := l.map fun b => .int .u8 (b.toNat : Int)
theorem bcells_len (l : List UInt8) : (bcells l).length = l.length := by simp [bcells]
theorem bcells_one (l : List UInt8) : ∀ u ∈ bcells l, u.oneCell' = true := by
  intro u hu; simp only [bcells, List.mem_map] at hu; obtain ⟨b, _, rfl⟩ := hu; rfl
theorem bcells_get {l : List UInt8} {j : Nat} {u : Value} (h : (bcells l)[j]? = some u) : ∃ b, l[j]? = some b ∧ u = .int .u8 (b.toNat : Int) := by
  simp only [bcells, List.getElem?_map, Option.map_eq_some_iff] at h
  obtain ⟨b, h1, h2⟩ := h
  exact ⟨b, h1, h2.symm⟩

/-- block g, of cap bytes, begins with the bytes l -/
def BRow (w : World) (g cap : Nat) (l : List UInt8) : Prop :=
  ∃ cur fr, w.heap[g]? = some (.cells cur 5 fr) ∧ cur.size = cap ∧ (cap ≤ fr.1 ∨ fr.2 ≤ fr.1) ∧ cap ≤ maxLen ∧ cur.toList.take l.length = bcells l ∧ l.length ≤ cap
section
variable {w w' : World} {g cap : Nat} {l : List UInt8} {S : Nat → Prop}
theorem BRow.lt (h : BRow w g cap l) : g < w.heap.size := by
  obtain ⟨cur, fr, h, _⟩ := h
  exact (Array.getElem?_eq_some_iff.1 h).1
theorem BRow.only (h : BRow w g cap l) (ho : Only S w w') (hg : ¬ S g) : BRow w' g cap l := by
  have hlt := h.lt
  obtain ⟨cur, fr, h, r⟩ := h
  exact ⟨cur, fr, (ho.same g hlt hg).trans h, r⟩
theorem BRow.cellAny (h : BRow w g cap l) (j : Nat) (hj : j < cap) : (w.cell? ⟨g, j, none⟩).isSome = true := by
  obtain ⟨cur, fr, h, hs, _⟩ := h
  rw [cell_of_row w g j cur _ fr h, Array.getElem?_eq_getElem (by omega)]
  rfl
theorem BRow.frozen (h : BRow w g cap l) (j : Nat) (hj : j < cap) : w.frozen? ⟨g, j, none⟩ = false := by
  obtain ⟨cur, fr, h, hs, hf, _⟩ := h
  simp only [World.frozen?, h]
  simp
  omega
theorem BRow.get (h : BRow w g cap l) (j : Nat) (b : UInt8) (hb : l[j]? = some b) : w.cell? ⟨g, j, none⟩ = some (.int .u8 (b.toNat : Int)) := by
  obtain ⟨cur, fr, h, hs, _, _, ht, hl⟩ := h
  have hj := (List.getElem?_eq_some_iff.1 hb).1
  rw [cell_of_row w g j cur _ fr h, ← Array.getElem?_toList, ← List.getElem?_take_of_lt hj, ht]
  simp [bcells, hb]
theorem setCells_size (g : Nat) : ∀ (vs : List Value) (o : Nat) (w : World), (w.setCells g o vs).heap.size = w.heap.size
  | [], o, w => rfl
  | v :: vs, o, w => (setCells_size g vs (o + 1) _).trans (by simp [World.setCell])
theorem setCells_at (g : Nat) (t : TypeId) (fr : Nat × Nat) : ∀ (vs : List Value) (cs : List Value) (o : Nat) (w : World), w.heap[g]? = some (.cells cs.toArray t fr) → (w.setCells g o vs).heap[g]? = some (.cells (setL cs o vs).toArray t fr)
  | [], cs, o, w, h => h
  | v :: vs, cs, o, w, h => setCells_at g t fr vs (cs.set o v) (o + 1) _ (by simp [World.setCell, Array.getElem?_modify, h])
theorem setL_take (vs cs : List Value) (n : Nat) (h : n + vs.length ≤ cs.length) : (setL cs n vs).take (n + vs.length) = cs.take n ++ vs := by
  apply List.ext_getElem?
  intro i
  have hl : (cs.take n).length = n := by simp; omega
  by_cases hi : i < n + vs.length
  · rw [List.getElem?_take_of_lt hi, setL_get vs cs n i h]
    by_cases h2 : n ≤ i
    · rw [if_pos ⟨h2, hi⟩, List.getElem?_append_right (by omega), hl]
    · rw [if_neg (by omega), List.getElem?_append_left (by omega), List.getElem?_take_of_lt (by omega)]
  · rw [List.getElem?_eq_none (by simp; omega), List.getElem?_eq_none (by simp; omega)]
theorem bcells_append (a b : List UInt8) : bcells (a ++ b) = bcells a ++ bcells b := by simp [bcells]
theorem Only.of_setCells (g : Nat) (vs : List Value) (o : Nat) (w : World) : Only (· = g) w (w.setCells g o vs) := Only.puts (S := (· = g)) w (fun _ => rfl) vs o w (Only.refl (· = g) w)
/-- bytes written behind those that are there -/
theorem BRow.write (h : BRow w g cap l) (m : List UInt8) (hm : l.length + m.length ≤ cap) : BRow (w.setCells g l.length (bcells m)) g cap (l ++ m) := by
  obtain ⟨cur, fr, h, hs, hf, hc, ht, hl⟩ := h
  have e := setCells_at g _ fr (bcells m) cur.toList l.length w (by simpa using h)
  refine ⟨_, fr, e, ?_, hf, hc, ?_, by simpa using hm⟩
  · rw [List.size_toArray, setL_len, Array.length_toList, hs]
  · have hsz : cur.toList.length = cap := by rw [Array.length_toList, hs]
    have := setL_take (bcells m) cur.toList l.length (by rw [bcells_len]; omega)
    rw [bcells_len] at this
    rw [List.length_append, this, ht, bcells_append]
theorem zeroCells_eq (n : Nat) : Builtin.zeroCells (Value.int .u8 0).cells n = (bcells (List.replicate n 0)).toArray := by
  apply Array.ext'
  apply List.ext_getElem
  · simp [Builtin.zeroCells, Value.cells, bcells]
  · intro i h1 h2
    simp [Builtin.zeroCells, Value.cells, bcells, Nat.mod_one]
theorem brow_new (w : World) (l rest : List UInt8) (h : l.length + rest.length ≤ maxLen) : BRow (w.alloc (.cells (bcells (l ++ rest)).toArray 5)) w.heap.size (l.length + rest.length) l := by
  refine ⟨_, (0, 0), heap_alloc_new w _, by simp [bcells], .inr (Nat.le_refl _), h, ?_, by omega⟩
  rw [bcells_append]
  simp only [List.append_toArray]
  rw [List.take_left' (by simp [bcells])]
theorem Tryd.infoB : (Tryd.prog.info? 5).map (fun i => (i.zero, i.size, i.bytes)) = some (some (.int .u8 0), 1, 1) := by kernel_rfl
/-- append of a slice that lies elsewhere -/
theorem app_bytes (ty : TypeId) (h : BRow w g cap l) (a : Addr) (m c : Nat) (news : List UInt8) (hl : news.length = m) (hn : ∀ j b, news[j]? = some b → w.cell? (a.add j) = some (.int .u8 (b.toNat : Int))) (h47 : l.length + m ≤ 140737488355328) :
    ∃ g' cap' w', (Builtin.append_ #[69, 69] ty #[.slice (some ⟨g, 0, none⟩) l.length cap, .slice (some a) m c]).run Tryd.prog w = .ok (.slice (some ⟨g', 0, none⟩) (l.length + m) cap') w' ∧ BRow w' g' cap' (l ++ news) ∧ Only (· = g) w w' ∧ (g' = g ∨ g' = w.heap.size) := by
  obtain ⟨i, hi, hz, hs, hb⟩ := info_parts Tryd.infoB
  have hn' : ∀ j u, (bcells news)[j]? = some u → w.cell? (a.add j) = some u := fun j u hu => by
    obtain ⟨b, h1, rfl⟩ := bcells_get hu
    exact hn j b h1
  have hln : (bcells news).length = m * i.size := by rw [bcells_len, hl, hs, Nat.mul_one]
  by_cases hroom : l.length + m ≤ cap
  · refine ⟨g, cap, _, run_append_room_cells (P := Tryd.prog) w _ ty _ i Tryd.underlying69 hi g 0 l.length cap a m c (bcells news) hln hn' (bcells_one news) hroom ?_ ?_, ?_, ?_, .inl rfl⟩
    · intro j hj; rw [bcells_len] at hj; rw [hs]; exact h.cellAny _ (by omega)
    · intro j hj; rw [bcells_len] at hj; rw [hs]; exact h.frozen _ (by omega)
    · rw [hs, Nat.zero_add, Nat.mul_one]; exact h.write news (by omega)
    · exact Only.of_setCells _ _ _ _
  · have hold : (Builtin.firstCells i.size l.length (.slice (some ⟨g, 0, none⟩) l.length cap)).run Tryd.prog w.drew = .ok (bcells l).toArray w.drew := by
      refine run_firstCells_some (P := Tryd.prog) w.drew i.size l.length ⟨g, 0, none⟩ l.length cap (bcells l) (by rw [bcells_len, hs, Nat.mul_one]) (fun j v hv => ?_)
      obtain ⟨b, h1, rfl⟩ := bcells_get hv
      rw [Addr.add_lit, Nat.zero_add]
      exact h.get j b h1
    have hsrc : Src Tryd.prog i.size 69 (.slice (some a) m c) m (bcells news) w := Src.ofSlice w Tryd.underlying69 a m c (bcells news) hln hn' (bcells_one news)
    have hge := grownCap_ge w (l.length + m) cap 5
    have hle := grownCap_le_maxLen w (l.length + m) cap 5 (by unfold maxLen; omega)
    have hr := run_append_grow_src (P := Tryd.prog) w _ 69 ty _ i _ Tryd.underlying69 hi hz (some ⟨g, 0, none⟩) l.length cap (bcells l) hold _ m (bcells news) hsrc (by omega) (by omega) (growslice_fits (by omega) (by rw [hb]; omega))
    have hbn := brow_new w.drew (l ++ news) (List.replicate (grownCap w (l.length + m) cap 5 - (l.length + m)) 0) (by simp [hl]; omega)
    refine ⟨_, _, _, hr, ?_, ?_, .inr rfl⟩
    · have e : ((bcells l ++ bcells news).toArray ++ Builtin.zeroCells (Value.int .u8 0).cells (grownCap w (l.length + m) cap 5 - (l.length + m))) = (bcells (l ++ news ++ List.replicate (grownCap w (l.length + m) cap 5 - (l.length + m)) 0)).toArray := by
        rw [zeroCells_eq, bcells_append, bcells_append]; simp
      rw [e]
      have e2 : (l ++ news).length + (List.replicate (grownCap w (l.length + m) cap 5 - (l.length + m)) (0 : UInt8)).length = grownCap w (l.length + m) cap 5 := by simp [hl]; omega
      rw [e2] at hbn
      exact hbn
    · exact ((Only.refl (· = g) w).drew).alloc _
/-- append of zeros -/
theorem app_zeros (ty : TypeId) (h : BRow w g cap l) (k : Nat) (h47 : l.length + k ≤ 140737488355328) :
    ∃ g' cap' w', (Builtin.append_ #[69, 3] ty #[.slice (some ⟨g, 0, none⟩) l.length cap, .int .i64 k]).run Tryd.prog w = .ok (.slice (some ⟨g', 0, none⟩) (l.length + k) cap') w' ∧ BRow w' g' cap' (l ++ List.replicate k 0) ∧ Only (· = g) w w' ∧ (g' = g ∨ g' = w.heap.size) := by
  obtain ⟨i, hi, hz, hs, hb⟩ := info_parts Tryd.infoB
  have hw : IntKind.i64.wrap (k : Int) = k := by rw [IntKind.wrap_i64]; omega
  have hneg : ¬ ((k : Int) < 0) := by omega
  have h48i : ¬ (281474976710656 < (k : Int) * (i.bytes : Int)) := by rw [hb]; omega
  by_cases hroom : l.length + k ≤ cap
  · have hst := run_storeCells_cells (P := Tryd.prog) g l.length (bcells (List.replicate k 0)) 0 w (fun j hj => by rw [bcells_len, List.length_replicate] at hj; exact h.cellAny _ (by omega)) (fun j hj => by rw [bcells_len, List.length_replicate] at hj; exact h.frozen _ (by omega)) (bcells_one _)
    simp only [Nat.add_zero] at hst
    refine ⟨g, cap, w.setCells g l.length (bcells (List.replicate k 0)), ?_, h.write _ (by simpa using hroom), Only.of_setCells _ _ _ _, .inl rfl⟩
    have hzr := zeroCells_eq k
    rcases Nat.eq_zero_or_pos k with h0 | h0
    · subst h0
      simp [Builtin.append_, run_underlying Tryd.underlying69, run_underlying Tryd.underlying3, sizeOf, typeInfo, zeroValue, hi, hz, asInt, asIntOf, hs, hb, IntKind.wrap_i64, bcells, World.setCells, storeCells, hroom]
      try omega
    · have hns : ¬ (k * i.size = 0) := Nat.mul_ne_zero (by omega) (by omega)
      simp [Builtin.append_, run_underlying Tryd.underlying69, run_underlying Tryd.underlying3, sizeOf, typeInfo, zeroValue, hi, hz, asInt, asIntOf, hw, hneg, hns, h48i, hs, hroom, hzr, Addr.add_lit, hst]
      try (intro h; omega)
  · have hlc : l.length ≤ cap := by obtain ⟨_, _, _, _, _, _, _, hl⟩ := h; exact hl
    have hold : (Builtin.firstCells i.size l.length (.slice (some ⟨g, 0, none⟩) l.length cap)).run Tryd.prog w.drew = .ok (bcells l).toArray w.drew := by
      refine run_firstCells_some (P := Tryd.prog) w.drew i.size l.length ⟨g, 0, none⟩ l.length cap (bcells l) (by rw [bcells_len, hs, Nat.mul_one]) (fun j v hv => ?_)
      obtain ⟨b, h1, rfl⟩ := bcells_get hv
      rw [Addr.add_lit, Nat.zero_add]
      exact h.get j b h1
    have hge := grownCap_ge w (l.length + k) cap 5
    have hle := grownCap_le_maxLen w (l.length + k) cap 5 (by unfold maxLen; omega)
    have hr := Go.Lib.run_append_grow_zeros (P := Tryd.prog) w 69 3 ty _ i _ .i64 .i64 Tryd.underlying69 Tryd.underlying3 hi hz (some ⟨g, 0, none⟩) l.length cap (bcells l) hold k (by omega) (by omega) (by omega) (by omega) (by rw [hb]; omega) (growslice_fits (by omega) (by rw [hb]; omega))
    have hbn := brow_new w.drew (l ++ List.replicate k 0) (List.replicate (grownCap w (l.length + k) cap 5 - (l.length + k)) 0) (by simp; omega)
    refine ⟨_, _, _, hr, ?_, ?_, .inr rfl⟩
    · have e : ((bcells l).toArray ++ Builtin.zeroCells (Value.int .u8 0).cells k ++ Builtin.zeroCells (Value.int .u8 0).cells (grownCap w (l.length + k) cap 5 - (l.length + k))) = (bcells (l ++ List.replicate k 0 ++ List.replicate (grownCap w (l.length + k) cap 5 - (l.length + k)) 0)).toArray := by
        rw [zeroCells_eq, zeroCells_eq, bcells_append, bcells_append]; simp
      rw [e]
      have e2 : (l ++ List.replicate k (0 : UInt8)).length + (List.replicate (grownCap w (l.length + k) cap 5 - (l.length + k)) (0 : UInt8)).length = grownCap w (l.length + k) cap 5 := by simp; omega
      rw [e2] at hbn
      exact hbn
    · exact ((Only.refl (· = g) w).drew).alloc _
end
/-- the row behind []byte(s) -/
theorem conv_brow (w : World) (s : ByteArray) (h47 : s.size ≤ 140737488355328) :
    ∃ cap, (convert 9 69 (.string s)).run Tryd.prog w = .ok (.slice (some ⟨w.heap.size, 0, none⟩) s.data.toList.length cap) (Go.Lib.bytesWorld w 5 s) ∧ BRow (Go.Lib.bytesWorld w 5 s) w.heap.size cap s.data.toList ∧ Only (fun _ => False) w (Go.Lib.bytesWorld w 5 s) := by
  have hsz : s.data.toList.length = s.size := Array.length_toList
  have hge := grownCap_ge w s.size 0 5
  have hle := grownCap_le_maxLen w s.size 0 5 (by unfold maxLen; omega)
  refine ⟨grownCap w s.size 0 5, ?_, ?_, ?_⟩
  · rw [hsz]
    exact Go.Lib.run_convert_string_bytes (P := Tryd.prog) w _ _ _ s Tryd.underlying9 Tryd.underlying69 Tryd.underlying5
  · have hcs : (Go.Lib.bytesCells w 5 s).size = grownCap w s.size 0 5 := by
      have e : s.data.size = s.size := rfl
      unfold Go.Lib.bytesCells
      rw [Array.size_append, Array.size_map, Array.size_replicate, e]
      omega
    refine ⟨_, _, Go.Lib.bytesWorld_at_new w _ s, hcs, .inl ?_, hle, ?_, by rw [hsz]; exact hge⟩
    · rw [hcs]; exact Nat.le_refl _
    · unfold Go.Lib.bytesCells bcells
      rw [Array.toList_append, Array.toList_map, List.take_left' (by simp)]
  · refine ⟨?_, ?_, ?_, ?_, ?_⟩
    · simp [Go.Lib.bytesWorld, World.freeze, World.alloc, World.drew, -World.alloc_eq, -World.drew_eq]
    · simp [Go.Lib.bytesWorld, World.freeze, World.alloc, World.drew, -World.alloc_eq, -World.drew_eq]
    · simp [Go.Lib.bytesWorld, World.freeze, World.alloc, World.drew, -World.alloc_eq, -World.drew_eq]
    · rw [Go.Lib.bytesWorld_size]; omega
    · intro j hj _; exact Go.Lib.bytesWorld_at_old w _ s j hj
end Go.Proofs.YtjmdfipofgmakaaDoor
