/-
  Words for memory, over any program: a block that is known whole; what a call may have changed; rows of structs.
  Whole arrays: laws for a variable that is laid, stored and loaded as a whole, of whatever length.
  Regions that draw their order: one walk in the order of the text, where calls may make memory (a class of worlds), with a tail of operations in one forced order behind it.
  Slices that a call makes itself by append: what they hold, and where.
  Append of a slice that may be nil, onto a slice that a call has made.
  Equality of structs of two ints.
  Powers modulo a number, prime numbers, Fermat's theorem, Pocklington's test; the primes of the group.
  Division of two words by one: one digit of the quotient, as math/bits' Div64 finds it, for any base.
  The group: powers modulo P of members, plain.
  Proofs that two numbers have the same logarithm, plain: in natural numbers.
  Numbers in decimal, plain: digits one by one, reading by a fold.
-/
import Derived.WalkKit
import Derived.WalkSpells
import Derived.WalkLawsBesides
import Derived.BigQuiet
import Derived.BigRegion
import Derived.Deep.QuietTactic
import Derived.Deep.RegionWith
import Derived.Deep.RegionHeld3
import Derived.Deep.DeepCutAuto
import Derived.Deep.LoopGhost
import Derived.Deep.DeepFit
import Derived.Deep.DeepMust
import Derived.Deep.Draws
import Derived.Lib.Hide
import Derived.Maps.AppendAt
import Derived.Deep.RegionLaw
import Derived.Deep.MidRow
import Derived.StillTail
import Derived.Laws.OwnMore
import Derived.Lib.ItoaLen
import Derived.Lib.ParseIntB
import Derived.Lib.AtoiAll
import Derived.Test.YtoekhpnapnhefaaGreatDoorProg
namespace Go.Proofs.YtoekhpnapnhefaaGreatDoor
set_option linter.unusedVariables false
set_option linter.unusedSimpArgs false
open Go.RowKit

/-- block g holds just the cells cs, of element type t, none of them frozen -/
def At (w : World) (g : Nat) (t : TypeId) (cs : List Value) : Prop := w.heap[g]? = some (.cells cs.toArray t (0, 0))

/-- of the blocks of w only those of S may have changed -/
structure Only (S : Nat → Prop) (w w' : World) : Prop where
  os : w'.os = w.os
  tape : w'.tape = w.tape
  output : w'.output = w.output
  size : w.heap.size ≤ w'.heap.size
  same : ∀ k, k < w.heap.size → ¬ S k → w'.heap[k]? = w.heap[k]?

section
variable {w w' w'' : World} {g : Nat} {t : TypeId} {cs : List Value} {S T : Nat → Prop}
theorem At.lt (h : At w g t cs) : g < w.heap.size := by
  rcases Nat.lt_or_ge g w.heap.size with hlt | hge
  · exact hlt
  · unfold At at h; rw [Array.getElem?_eq_none hge] at h; cases h
theorem At.cell (h : At w g t cs) {i : Nat} {v : Value} (hv : cs[i]? = some v) : w.cell? ⟨g, i, none⟩ = some v := by
  rw [cell_of_row w g i cs.toArray t (0, 0) h]; simpa using hv
theorem At.frozen (h : At w g t cs) (i : Nat) : w.frozen? ⟨g, i, none⟩ = false := by
  unfold At at h
  simp [World.frozen?, h]
theorem At.new (w : World) (t : TypeId) (cs : List Value) : At (w.alloc (.cells cs.toArray t)) w.heap.size t cs := heap_alloc_new w _
theorem At.drew (h : At w g t cs) : At w.drew g t cs := h
theorem At.drewN (h : At w g t cs) (n : Nat) : At (w.drewN n) g t cs := h
theorem At.alloc (h : At w g t cs) (o : Obj) : At (w.alloc o) g t cs := (Below.heap_alloc w o g h.lt).trans h
theorem At.put (h : At w g t cs) (i : Nat) (u : Value) : At (w.setCell ⟨g, i, none⟩ u) g t (cs.set i u) := by
  unfold At at h ⊢
  simp [World.setCell, Array.getElem?_modify, h]
theorem At.far (h : At w g t cs) {p : Addr} (hp : g ≠ p.block) (u : Value) : At (w.setCell p u) g t cs := (Below.heap_setCell w p u g hp).trans h
theorem At.only (h : At w g t cs) (ho : Only S w w') (hg : ¬ S g) : At w' g t cs := (ho.same g h.lt hg).trans h
theorem At.grown {row : Option Nat} (h : At w g t cs) (hb : w.grownBy w' row) (hg : row ≠ some g) : At w' g t cs := (hb.block g h.lt fun e => hg e.symm).trans h
theorem At.ne (h : At w g t cs) {g' : Nat} {t' : TypeId} {cs' : List Value} (h' : At w g' t' cs') (hne : t ≠ t') : g ≠ g' := by
  rintro rfl
  unfold At at h h'
  rw [h] at h'
  injection h' with h'
  injection h' with _ ht
  exact hne ht
theorem At.eq (h : At w g t cs) {t' : TypeId} {cs' : List Value} (h' : At w g t' cs') : cs = cs' := by
  unfold At at h h'
  rw [h] at h'
  injection h' with h'
  injection h' with h1 _
  simpa using h1

theorem Only.refl (S : Nat → Prop) (w : World) : Only S w w := ⟨rfl, rfl, rfl, Nat.le_refl _, fun _ _ _ => rfl⟩
theorem Only.mono (h : Only S w w') (k : ∀ i, i < w.heap.size → S i → T i) : Only T w w' := ⟨h.os, h.tape, h.output, h.size, fun i hi hn => h.same i hi fun hs => hn (k i hi hs)⟩
theorem Only.trans (h : Only S w w') (k : Only T w' w'') (hT : ∀ i, i < w.heap.size → T i → S i) : Only S w w'' :=
  ⟨k.os.trans h.os, k.tape.trans h.tape, k.output.trans h.output, Nat.le_trans h.size k.size,
   fun i hi hn => (k.same i (Nat.lt_of_lt_of_le hi h.size) fun ht => hn (hT i hi ht)).trans (h.same i hi hn)⟩
theorem Only.drew (h : Only S w w') : Only S w w'.drew := ⟨h.os, h.tape, h.output, h.size, h.same⟩
theorem Only.drewN (h : Only S w w') (n : Nat) : Only S w (w'.drewN n) := ⟨h.os, h.tape, h.output, h.size, h.same⟩
theorem Only.alloc (h : Only S w w') (o : Obj) : Only S w (w'.alloc o) :=
  ⟨h.os, h.tape, h.output, Nat.le_trans h.size (by simp), fun i hi hn => (Below.heap_alloc w' o i (Nat.lt_of_lt_of_le hi h.size)).trans (h.same i hi hn)⟩
theorem Only.put (h : Only S w w') {p : Addr} (hp : p.block < w.heap.size → S p.block) (u : Value) : Only S w (w'.setCell p u) :=
  ⟨h.os, h.tape, h.output, by simpa [World.setCell] using h.size, fun i hi hn => (Below.heap_setCell w' p u i (by rintro rfl; exact hn (hp hi))).trans (h.same i hi hn)⟩
theorem Only.grown {row : Option Nat} (h : Only S w w') (hg : w'.grownBy w'' row) (hr : ∀ k, row = some k → k < w.heap.size → S k) : Only S w w'' :=
  ⟨hg.os.trans h.os, hg.tape.trans h.tape, hg.output.trans h.output, Nat.le_trans h.size hg.size,
   fun i hi hn => (hg.block i (Nat.lt_of_lt_of_le hi h.size) (fun e => hn (hr i e.symm hi))).trans (h.same i hi hn)⟩
theorem Only.of_below {B : Nat} (h : Below B w w') (hS : ∀ i, B ≤ i → i < w.heap.size → S i) : Only S w w' :=
  ⟨h.os, h.tape, h.output, h.size, fun i hi hn => h.block i (by rcases Nat.lt_or_ge i B with h1 | h1; exact h1; exact absurd (hS i h1 hi) hn)⟩
theorem Only.below {B : Nat} (h : Only S w w') (hS : ∀ i, S i → B ≤ i) (hB : B ≤ w.heap.size) : Below B w w' :=
  ⟨h.os, h.tape, h.output, h.size, fun i hi => h.same i (by omega) fun hs => by have := hS i hs; omega⟩
theorem Only.cell (h : Only S w w') {p : Addr} {v : Value} (hv : w.cell? p = some v) (hp : ¬ S p.block) : w'.cell? p = some v :=
  (World.cell?_of_block (h.same p.block (World.block_lt_of_cell? w p hv) hp)).trans hv
end

/-- a slice value that is nil, or lies at the head of a block of its own, with n elements, whose cells are xs -/
def Ow (w : World) (e : TypeId) (size : Nat) (v : Value) (n : Nat) (xs : List Value) : Prop := w.ownsRow 0 e size v n xs

section
variable {w w' : World} {e : TypeId} {size n : Nat} {v : Value} {xs : List Value} {S : Nat → Prop}
theorem Ow.nil (w : World) (e : TypeId) (size : Nat) : Ow w e size (.slice none 0 0) 0 [] := World.ownsRow_nil w 0 e size
theorem Ow.len (h : Ow w e size v n xs) : xs.length = n * size := h.1
theorem Ow.form (h : Ow w e size v n xs) : (v = .slice none 0 0 ∧ n = 0 ∧ xs = []) ∨ ∃ g cap sp, v = .slice (some ⟨g, 0, none⟩) n cap ∧ At w g e (xs ++ sp) ∧ n ≤ cap ∧ cap ≤ maxLen ∧ (xs ++ sp).length = cap * size := by
  rcases h.2 with ⟨h1, h2⟩ | ⟨g, cap, cur, h1, _, h3, h4, h5, h6, h7⟩
  · exact .inl ⟨h1, h2, List.eq_nil_of_length_eq_zero (by have := h.1; rw [h2] at this; simpa using this)⟩
  · have e : xs ++ cur.toList.drop (n * size) = cur.toList := by rw [← h7, List.take_append_drop]
    refine .inr ⟨g, cap, cur.toList.drop (n * size), h1, ?_, h4, h5, ?_⟩
    · unfold At; rw [e]; simpa using h3
    · rw [e]; simpa using h6
theorem Ow.at_ (h : Ow w e size v n xs) (hn : 0 < n) : ∃ g cap sp, v = .slice (some ⟨g, 0, none⟩) n cap ∧ At w g e (xs ++ sp) ∧ n ≤ cap ∧ cap ≤ maxLen ∧ (xs ++ sp).length = cap * size := by
  rcases h.form with ⟨_, h2, _⟩ | h
  · omega
  · exact h
theorem Ow.mk {g cap : Nat} {sp : List Value} (h : At w g e (xs ++ sp)) (hx : xs.length = n * size) (hn : n ≤ cap) (hm : cap ≤ maxLen) (hc : (xs ++ sp).length = cap * size) : Ow w e size (.slice (some ⟨g, 0, none⟩) n cap) n xs :=
  ⟨hx, .inr ⟨g, cap, _, rfl, Nat.zero_le _, h, hn, hm, by simpa using hc, by rw [← hx]; simp⟩⟩
theorem Ow.shape (h : Ow w e size v n xs) : ∃ A c, v = .slice A n c := by
  rcases h.form with ⟨rfl, rfl, _⟩ | ⟨g, cap, sp, rfl, _⟩
  · exact ⟨_, _, rfl⟩
  · exact ⟨_, _, rfl⟩
theorem Ow.lt (h : Ow w e size v n xs) : ∀ k, v.ownBlock = some k → k < w.heap.size := fun k hk => (World.ownsRow.lt h k hk).2
theorem Ow.only (h : Ow w e size v n xs) (ho : Only S w w') (hS : ∀ k, v.ownBlock = some k → ¬ S k) : Ow w' e size v n xs := by
  refine ⟨h.1, ?_⟩
  rcases h.2 with h2 | ⟨g, cap, cur, h1, h2, h3, r⟩
  · exact .inl h2
  · refine .inr ⟨g, cap, cur, h1, h2, ?_, r⟩
    rw [ho.same g (Array.getElem?_eq_some_iff.1 h3).1 (hS g (by rw [h1]; rfl))]
    exact h3
theorem Ow.ne_at (h : Ow w e size v n xs) {g : Nat} {t : TypeId} {cs : List Value} (ha : At w g t cs) (hne : e ≠ t) : v.ownBlock ≠ some g := by
  rcases h.form with ⟨rfl, _⟩ | ⟨g', cap, sp, rfl, h2, _⟩
  · simp [Value.ownBlock]
  · intro he
    have : g' = g := by simpa [Value.ownBlock] using he
    exact h2.ne ha hne this
theorem Ow.ne_ow (h : Ow w e size v n xs) {e' : TypeId} {size' n' : Nat} {v' : Value} {xs' : List Value} (h' : Ow w e' size' v' n' xs') (hne : e ≠ e') {g : Nat} (hg : v'.ownBlock = some g) : v.ownBlock ≠ some g := by
  rcases h'.form with ⟨rfl, _⟩ | ⟨g', cap, sp, rfl, h2, _⟩
  · simp [Value.ownBlock] at hg
  · have : g' = g := by simpa [Value.ownBlock] using hg
    subst this
    exact h.ne_at h2 hne
end

/-- append onto such a slice, as one step of a region that draws its order -/
theorem step_app {P : Program} {w : World} {ops : Array Oper} {o : Oper} {a : Act} {K : Act → World → Prop} {Q : Exit → Act → World → Prop} {E : Prop} (hgd : o.guard = none) (s x : Operand) (t : TypeId)
    (ho : o.op = .call { callee := .builtin .append, args := #[s, x], argTypes := #[t, t] })
    (e : TypeId) (i : TypeInfo) (z : Value) (size bytes : Nat) (ht : P.underlying t = some (.slice e)) (hi : P.info? e = some i) (hz : i.zero = some z)
    (hsize : i.size = size) (hby : i.bytes = bytes) (hzs : z.cells.size = size) (hsz : 0 < size)
    (v : Value) (n : Nat) (xs : List Value) (hs : a.eval s = v) (hown : Ow w e size v n xs)
    (ad : Addr) (m c : Nat) (news : List Value) (hx : a.eval x = .slice (some ad) m c) (hl : news.length = m * size) (hnews : ∀ j u, news[j]? = some u → w.cell? (ad.add j) = some u) (h1 : ∀ u ∈ news, u.oneCell' = true)
    (h63 : n + m ≤ maxLen) (hbytes : (n + m) * bytes ≤ 140737488355328)
    (h : ∀ v' w', Ow w' e size v' (n + m) (xs ++ news) → w.grownBy w' v.ownBlock → (v'.ownBlock = v.ownBlock ∨ v'.ownBlock = some w.heap.size) → (v' = .slice none 0 0 ↔ v = .slice none 0 0 ∧ m = 0) → K (a.put o.dst v') w') :
    if Region.wanted o (yielded ops a.tmps) = true then Oper.wp P o a w K Q else E := by
  have hw : Region.wanted o (yielded ops a.tmps) = true := by simp [Region.wanted, hgd]
  rw [if_pos hw]
  obtain ⟨v', w', hr, h2, h3, h4, h5⟩ := run_append_own_at (P := P) w 0 t o.type e i z size bytes ht hi hz hsize hby hzs hsz v n xs hown ad m c news hl hnews h1 h63 hbytes (Nat.zero_le _)
  unfold Oper.wp execOp
  simp only [ho, resolve, invoke, builtin, Sem.run_bind, Sem.run_pure, Result.andThen_ok, List.map_toArray, List.map_cons, List.map_nil, hs, hx, hr]
  exact h v' w' h2 h3 h5 h4

/-- append onto such a slice, in a plain region -/
theorem wpl_app {P : Program} {w : World} {ops : Array Oper} {rest : List Oper} {o : Oper} {a : Act} {Q : Exit → Act → World → Prop} (hgd : o.guard = none) (s x : Operand) (t : TypeId)
    (ho : o.op = .call { callee := .builtin .append, args := #[s, x], argTypes := #[t, t] })
    (e : TypeId) (i : TypeInfo) (z : Value) (size bytes : Nat) (ht : P.underlying t = some (.slice e)) (hi : P.info? e = some i) (hz : i.zero = some z)
    (hsize : i.size = size) (hby : i.bytes = bytes) (hzs : z.cells.size = size) (hsz : 0 < size)
    (v : Value) (n : Nat) (xs : List Value) (hs : a.eval s = v) (hown : Ow w e size v n xs)
    (ad : Addr) (m c : Nat) (news : List Value) (hx : a.eval x = .slice (some ad) m c) (hl : news.length = m * size) (hnews : ∀ j u, news[j]? = some u → w.cell? (ad.add j) = some u) (h1 : ∀ u ∈ news, u.oneCell' = true)
    (h63 : n + m ≤ maxLen) (hbytes : (n + m) * bytes ≤ 140737488355328)
    (h : ∀ v' w', Ow w' e size v' (n + m) (xs ++ news) → w.grownBy w' v.ownBlock → (v'.ownBlock = v.ownBlock ∨ v'.ownBlock = some w.heap.size) → (v' = .slice none 0 0 ↔ v = .slice none 0 0 ∧ m = 0) → wpList P ops Q rest (a.put o.dst v') w') :
    wpList P ops Q (o :: rest) a w := by
  refine wpList_plain hgd fun _ hK => ?_
  obtain ⟨v', w', hr, h2, h3, h4, h5⟩ := run_append_own_at (P := P) w 0 t o.type e i z size bytes ht hi hz hsize hby hzs hsz v n xs hown ad m c news hl hnews h1 h63 hbytes (Nat.zero_le _)
  unfold Oper.wp execOp
  simp only [ho, resolve, invoke, builtin, Sem.run_bind, Sem.run_pure, Result.andThen_ok, List.map_toArray, List.map_cons, List.map_nil, hs, hx, hr]
  exact hK _ _ (h v' w' h2 h3 h5 h4)

/-- what lies in a block is there for a law on append -/
theorem At.news {w : World} {g : Nat} {t : TypeId} {xs sp : List Value} (h : At w g t (xs ++ sp)) : ∀ j u, xs[j]? = some u → w.cell? ((⟨g, 0, none⟩ : Addr).add j) = some u := by
  intro j u hj
  rw [Addr.add_lit]
  have hlt := (List.getElem?_eq_some_iff.1 hj).1
  simpa using h.cell (i := 0 + j) (v := u) (by rw [Nat.zero_add, List.getElem?_append_left hlt]; exact hj)
theorem At.news' {w : World} {g : Nat} {t : TypeId} {xs : List Value} (h : At w g t xs) : ∀ j u, xs[j]? = some u → w.cell? ((⟨g, 0, none⟩ : Addr).add j) = some u :=
  At.news (sp := []) (by simpa using h)

/-- rows of structs, one behind the other -/
theorem flat_get {α : Type} (f : α → List Value) (n : Nat) (hf : ∀ a, (f a).length = n) (sp : List Value) : ∀ (l : List α) (i j : Nat) (h : i < l.length), j < n →
    (l.flatMap f ++ sp)[i * n + j]? = (f l[i])[j]?
  | [], i, j, h, _ => by simp at h
  | x :: l, 0, j, _, hj => by
    simp only [List.flatMap_cons, List.append_assoc, Nat.zero_mul, Nat.zero_add, List.getElem_cons_zero]
    rw [List.getElem?_append_left (by rw [hf]; exact hj)]
  | x :: l, i + 1, j, h, hj => by
    have e : (i + 1) * n + j = (f x).length + (i * n + j) := by rw [hf, Nat.add_mul, Nat.one_mul]; omega
    simp only [List.flatMap_cons, List.append_assoc, List.getElem_cons_succ]
    rw [e, List.getElem?_append_right (by omega), Nat.add_sub_cancel_left]
    exact flat_get f n hf sp l i j (by simpa using h) hj
theorem flat_length {α : Type} (f : α → List Value) (n : Nat) (hf : ∀ a, (f a).length = n) (l : List α) : (l.flatMap f).length = l.length * n := by
  induction l with
  | nil => simp
  | cons x l ih => simp [hf, ih, Nat.add_mul, Nat.add_comm]

end Go.Proofs.YtoekhpnapnhefaaGreatDoor

namespace Go.Proofs.YtoekhpnapnhefaaGreatDoor
open Go.RowKit
set_option linter.unusedVariables false
set_option linter.unusedSimpArgs false

def setL (cs : List Value) : Nat → List Value → List Value
  | _, [] => cs
  | o, v :: vs => setL (cs.set o v) (o + 1) vs
theorem setL_len : ∀ (vs cs : List Value) (o : Nat), (setL cs o vs).length = cs.length
  | [], cs, o => rfl
  | v :: vs, cs, o => by rw [setL, setL_len vs]; simp
theorem setL_get : ∀ (vs cs : List Value) (o i : Nat), o + vs.length ≤ cs.length → (setL cs o vs)[i]? = if o ≤ i ∧ i < o + vs.length then vs[i - o]? else cs[i]?
  | [], cs, o, i, _ => by simp [setL]; omega
  | v :: vs, cs, o, i, h => by
    simp only [List.length_cons] at h
    rw [setL, setL_get vs (cs.set o v) (o + 1) i (by simp; omega)]
    rcases Nat.lt_trichotomy i o with h1 | h1 | h1
    · rw [if_neg (by omega), if_neg (by omega), List.getElem?_set_ne (by omega)]
    · subst h1
      rw [if_neg (by omega), if_pos (by simp), List.getElem?_set_self (by omega)]
      simp
    · by_cases h2 : i < o + 1 + vs.length
      · rw [if_pos (by omega), if_pos (by simp; omega), show i - o = (i - (o + 1)) + 1 by omega]
        simp
      · rw [if_neg (by omega), if_neg (by simp; omega), List.getElem?_set_ne (by omega)]
theorem setL_all (vs cs : List Value) (h : cs.length = vs.length) : setL cs 0 vs = vs := by
  apply List.ext_getElem?
  intro i
  rw [setL_get vs cs 0 i (by omega)]
  by_cases hi : i < vs.length
  · rw [if_pos (by omega)]; simp
  · rw [if_neg (by omega), List.getElem?_eq_none (by omega), List.getElem?_eq_none (by omega)]
theorem At.puts {g : Nat} {t : TypeId} : ∀ (vs cs : List Value) (o : Nat) (w : World), At w g t cs → At (w.setCells g o vs) g t (setL cs o vs)
  | [], cs, o, w, h => h
  | v :: vs, cs, o, w, h => At.puts vs (cs.set o v) (o + 1) _ (h.put o v)
theorem Only.puts {S : Nat → Prop} {g : Nat} (w0 : World) (hS : g < w0.heap.size → S g) : ∀ (vs : List Value) (o : Nat) (w : World), Only S w0 w → Only S w0 (w.setCells g o vs)
  | [], o, w, h => h
  | v :: vs, o, w, h => Only.puts w0 hS vs (o + 1) _ (h.put (p := ⟨g, o, none⟩) hS v)

theorem At.range {w : World} {g : Nat} {t : TypeId} {cs : List Value} (h : At w g t cs) : w.rangeAt g 0 cs := fun j v hv => h.cell (i := 0 + j) (by rw [Nat.zero_add]; exact hv)
section
variable {P : Program} {ops : Array Oper} {rest : List Oper} {o : Oper} {a : Act} {w : World} {Q : Exit → Act → World → Prop}
theorem wpl_alloc_all (hgd : o.guard = none) (ty : TypeId) (ho : o.op = .alloc ty) (zs : List Value) (hz : (zeroValue ty).run P w = .ok (.agg zs.toArray) w)
    (h : ∀ w', At w' w.heap.size ty zs → Only (fun _ => False) w w' → w'.heap.size = w.heap.size + 1 → wpList P ops Q rest (a.put o.dst (.pointer (some ⟨w.heap.size, 0, none⟩))) w') :
    wpList P ops Q (o :: rest) a w := by
  refine wpList_plain hgd fun _ hK => ?_
  unfold Oper.wp execOp
  have hr : (Instr.alloc ty true (.tuple #[])).run P w = .ok (.pointer (some ⟨w.heap.size, 0, none⟩)) (w.alloc (.cells zs.toArray ty)) := by
    unfold Instr.alloc
    rw [Sem.run_bind, hz]
    rfl
  simp only [ho, Sem.run_bind, Sem.run_pure, Result.andThen_ok, hr]
  exact hK _ _ (h _ (At.new w ty zs) ((Only.refl _ w).alloc _) (by simp))
theorem wpl_store_all (hgd : o.guard = none) (ty : TypeId) (x y : Operand) (ho : o.op = .store ty x y) (g : Nat) (t : TypeId) (old news : List Value)
    (hx : a.eval x = .pointer (some ⟨g, 0, none⟩)) (hy : a.eval y = .agg news.toArray) (hat : At w g t old) (hl : old.length = news.length) (hi : (P.info? ty).map (·.size) = some news.length) (h1 : ∀ v ∈ news, v.oneCell' = true)
    (h : ∀ w', At w' g t news → Only (· = g) w w' → w'.heap.size = w.heap.size → wpList P ops Q rest (a.put o.dst undef) w') : wpList P ops Q (o :: rest) a w := by
  refine wpList_store_mid hgd ty x y ho g 0 news.toArray hx hy ?_ (by simpa using hi) (all_oneCell_toArray h1) ?_
  · intro j hj
    refine ⟨?_, hat.frozen _⟩
    have hj' : j < old.length := by rw [hl]; simpa using hj
    rw [hat.cell (i := 0 + j) (v := old[j]) (by rw [Nat.zero_add, List.getElem?_eq_getElem hj'])]
    rfl
  · have e := hat.puts news old 0 w
    rw [setL_all news old hl] at e
    refine h _ e (Only.puts (S := (· = g)) w (fun _ => rfl) news 0 w (Only.refl _ w)) ?_
    have : ∀ (vs : List Value) (o : Nat) (w : World), (w.setCells g o vs).heap.size = w.heap.size := by
      intro vs
      induction vs with
      | nil => intro o w; rfl
      | cons v vs ih => intro o w; exact (ih (o + 1) _).trans (by simp [World.setCell])
    exact this _ _ _
theorem wpl_build (hgd : o.guard = none) (ty : TypeId) (parts : Array (Nat × Operand)) (ho : o.op = .build ty parts) (v : Value) (hr : (Instr.build ty (parts.map fun (i, x) => (i, a.eval x))).run P w = .ok v w)
    (h : wpList P ops Q rest (a.put o.dst v) w) : wpList P ops Q (o :: rest) a w := by
  refine wpList_plain hgd fun _ hK => ?_
  unfold Oper.wp execOp
  simp only [ho, Sem.run_bind, Sem.run_pure, Result.andThen_ok, hr]
  exact hK _ _ h
theorem wpl_load_all (hgd : o.guard = none) (ty : TypeId) (x : Operand) (ho : o.op = .load ty x) (g : Nat) (hx : a.eval x = .pointer (some ⟨g, 0, none⟩)) (t : TypeId) (cs : List Value) (d : TypeDesc) (hg : At w g t cs)
    (hu : P.underlying ty = some d) (hd : d.isRow = true) (hi : (P.info? ty).map (·.size) = some cs.length)
    (h : wpList P ops Q rest (a.put o.dst (.agg cs.toArray)) w) : wpList P ops Q (o :: rest) a w :=
  wpList_load_mid hgd ty x ho g 0 hx cs d hg.range hu hd hi h
theorem results_all {fn : Func} {p : Tmp} {ty : TypeId} (hf : fn.results = #[.cell p ty]) (tmps : Array Value) (g : Nat) (hp : tmps.getD p undef = .pointer (some ⟨g, 0, none⟩)) (t : TypeId) (cs : List Value) (d : TypeDesc) (hg : At w g t cs)
    (hu : P.underlying ty = some d) (hd : d.isRow = true) (hi : (P.info? ty).map (·.size) = some cs.length) :
    (results fn tmps).run P w = .ok (.agg cs.toArray) w := by
  have hr := run_loadVar_mid (P := P) w g 0 ty cs d hg.range hu hd hi
  have hp' : tmps[p]?.getD undef = .pointer (some ⟨g, 0, none⟩) := by rw [← Array.getD_eq_getD_getElem?]; exact hp
  simp only [results, hf]
  simp [Sem.run_bind, Result.andThen, hp', asAddr, hr]
theorem run_index_agg {ty elem : TypeId} {len : Nat} (hu : P.underlying ty = some (.array len elem)) (hz : (sizeOf elem).run P w = .ok 1 w) (ha : (isAgg elem).run P w = .ok false w) (k : IntKind) (i : Nat) (hi : i < len) (cs : List Value) (v : Value) (hv : cs[i]? = some v) :
    (Instr.index ty (.agg cs.toArray) (.int k i)).run P w = .ok v w := by
  have h1 : (0 : Int) ≤ (i : Int) ∧ (i : Int) < (len : Int) := by omega
  have hr : (part elem cs.toArray i).run P w = .ok v w := by
    unfold part
    rw [Sem.run_bind, ha]
    simp only [Result.andThen_ok, Bool.false_eq_true, if_false]
    have : cs.toArray[i]? = some v := by simpa using hv
    rw [this]
    rfl
  simp only [Instr.index, asIntOf, Sem.run_bind, Sem.run_pure, Result.andThen_ok, run_underlying hu, if_pos h1, hz, Int.toNat_natCast, Nat.mul_one, hr]
theorem wpl_index {elem : TypeId} {len : Nat} (hgd : o.guard = none) (ty : TypeId) (x y : Operand) (ho : o.op = .index ty x y) (cs : List Value) (k : IntKind) (i : Nat) (hx : a.eval x = .agg cs.toArray) (hy : a.eval y = .int k i) (hu : P.underlying ty = some (.array len elem)) (hz : (sizeOf elem).run P w = .ok 1 w) (ha : (isAgg elem).run P w = .ok false w) (hi : i < len) (v : Value) (hv : cs[i]? = some v)
    (h : wpList P ops Q rest (a.put o.dst v) w) : wpList P ops Q (o :: rest) a w := by
  refine wpList_plain hgd fun _ hK => ?_
  unfold Oper.wp execOp
  simp only [ho, hx, hy, Sem.run_bind, Sem.run_pure, Result.andThen_ok, run_index_agg hu hz ha k i hi cs v hv]
  exact hK _ _ h
end
end Go.Proofs.YtoekhpnapnhefaaGreatDoor

namespace Go.Proofs.YtoekhpnapnhefaaGreatDoor
open Go.RowKit
set_option linter.unusedVariables false
set_option linter.unusedSimpArgs false

section
variable {P : Program} {ops : Array Oper} {md : Region.Mode} {C : World → Prop}

/-- the first n operations, in whatever order, each with one value in the whole class; then L -/
def Head (P : Program) (md : Region.Mode) (ops : Array Oper) (C : World → Prop) (n : Nat) (L : Array Bool → Act → Prop) : Nat → Array Bool → Act → Prop
  | 0, l, a => L l a
  | k + 1, l, a => Region.ready md ops l ≠ [] ∧ ∀ i ∈ Region.ready md ops l, i < n ∧ qOp P ops C i (Head P md ops C n L k (l.setIfInBounds i true)) a

theorem Head.any {n g : Nat} {L : Array Bool → Act → Prop} {Q : Exit → Act → World → Prop} (hL : ∀ l a w, C w → L l a → wpAny P md ops Q g l a w) :
    ∀ (k : Nat) (l : Array Bool) (a : Act) (w : World), C w → Head P md ops C n L k l a → wpAny P md ops Q (k + g) l a w
  | 0, l, a, w, hw, h => by rw [Nat.zero_add]; exact hL _ _ _ hw h
  | k + 1, l, a, w, hw, h => by
    rw [show k + 1 + g = (k + g) + 1 by omega]
    exact ⟨fun h0 => absurd h0 h.1, fun i hi => wpOp_of_qOp hw (fun a' w' hw' h' => Head.any hL k _ a' w' hw' h') (h.2 i hi).2⟩

theorem Head.first {n i : Nat} {oi : Oper} {v : Value} {L : Array Bool → Act → Prop} (hi : ops[i]? = some oi) (hsel : ∀ (j : Nat) (o : Oper) cs b, ops[j]? = some o → o.op ≠ .select cs b)
    (hs : Region.sinkB md ops n = true) (hc : Region.chainB md ops n = true) (hn : n < ops.size) (hin : i < n) (hdone : ∀ l a, L l a → ∀ j ∈ Region.ready md ops l, n ≤ j) :
    ∀ (k : Nat) (l : Array Bool) (a : Act), HeadInv md ops n l → (∀ j oj, ops[j]? = some oj → j ≠ i → l.getD j true = false → (∀ e ∈ oj.after, Region.binds md e = true → e.on ≠ i) → oi.apart ops oj = true) →
      i ∈ Region.ready md ops l → YieldsIn P ops C oi v a → Head P md ops C n L k (l.setIfInBounds i true) (a.put oi.dst v) → Head P md ops C n L (k + 1) l a
  | k, l, a, inv, hfree, hr, hy, H => by
    have hun := (mem_ready.1 hr).1
    refine ⟨fun h => (by rw [h] at hr; cases hr), fun j hj => ?_⟩
    have hjn : j < n := by
      rcases Nat.lt_or_ge j n with h | h
      · exact h
      · exact absurd hj (tail_waits hs hc hn inv _ i rfl hin hun j h)
    refine ⟨hjn, ?_⟩
    by_cases hji : j = i
    · subst hji; exact hy.qOp hi H
    · match k, H with
      | 0, H =>
        have := hdone _ _ H j (ready_mono hj hji)
        omega
      | k + 1, H =>
        have h1 := (H.2 j (ready_mono hj hji)).2
        obtain ⟨hjun, oj, hoj, hall⟩ := mem_ready.1 hj
        have hnot : ∀ e ∈ oj.after, Region.binds md e = true → e.on ≠ i := fun e he hb heq => by
          have h3 := hall e he hb
          rw [heq, getD_both hun] at h3
          cases h3
        have h2 := qOp_put hoj (hfree j oj hoj hji hjun hnot) (fun cs b => hsel i oi cs b hi) (fun cs b => hsel j oj cs b hoj) hy h1
        have hfree' : ∀ m om, ops[m]? = some om → m ≠ i → (l.setIfInBounds j true).getD m true = false → (∀ e ∈ om.after, Region.binds md e = true → e.on ≠ i) → oi.apart ops om = true := fun m om hm hmi hu hno => by
          refine hfree m om hm hmi ?_ hno
          by_cases hjm : j = m
          · subst hjm; exact hjun
          · rw [getD_set_ne true hjm] at hu; exact hu
        refine qOp_mono (fun a' h3 => Head.first hi hsel hs hc hn hin hdone k (l.setIfInBounds j true) a' (inv.set hj hjn) hfree' (ready_mono hr (Ne.symm hji)) h3.1 ?_) h2
        rw [Array.setIfInBounds_comm _ _ hji]
        exact h3.2

theorem Head.lex {n g : Nat} {Lq : Act → Prop} (hsel : Region.noSelect ops = true) (hs : Region.sinkB md ops n = true) (hc : Region.chainB md ops n = true) (hn : n < ops.size) :
    ∀ (os : List Oper) (k : Nat) (l : Array Bool) (a : Act), (∀ j, j < os.length → os[j]? = ops[k + j]?) → k + os.length = n → HeadInv md ops n l → Region.lexHead md ops g os.length k l = true → wpQuiet P ops C Lq os a →
    Head P md ops C n (fun l' a' => Region.seqB md ops g n l' = true ∧ Lq a') os.length l a
  | [], k, l, a, _, hk, _, hB, h => by
    obtain rfl : k = n := by simpa using hk
    exact ⟨by simpa [Region.lexHead] using hB, h⟩
  | o :: os, k, l, a, hl, hk, inv, hB, h => by
    have h0 : ops[k]? = some o := by simpa using (hl 0 (by simp)).symm
    simp only [List.length_cons, Region.lexHead, Bool.and_eq_true] at hB
    obtain ⟨⟨hr, hf⟩, hB'⟩ := hB
    have hkn : k < n := by simp only [List.length_cons] at hk; omega
    have hr' : k ∈ Region.ready md ops l := by simpa using hr
    have hst : qOp P ops C k (wpQuiet P ops C Lq os) a := by unfold qOp; simp only [h0]; exact h
    obtain ⟨v, hy, hK⟩ := yieldsIn_of_qOp h0 hst
    exact Head.first h0 (Region.noSelect_spec hsel) hs hc hn hkn (fun l' a' hL => seqB_ready hL.1) os.length l a inv (Region.free_spec h0 hf) hr' hy
      (Head.lex hsel hs hc hn os (k + 1) _ _ (fun j hj => by have := hl (j + 1) (by simp; omega); simpa [Nat.add_assoc, Nat.add_comm 1 j] using this) (by simp only [List.length_cons] at hk; omega) (inv.set hr' hkn) hB' hK)

/-- the region with a tail: n operations that leave a world of the class, then the others in the world that is left -/
theorem wp_class_tail {id : Nat} {Q : Exit → Act → World → Prop} {a : Act} {w : World} {l : List Oper} (n : Nat) (hm : P.follows .mixedOrders = true) (hB : Region.lexTailB .any l.toArray n = true) (hC : C w.drew)
    (h : wpQuiet P l.toArray C (fun a' => ∀ w', C w' → wpList P l.toArray Q (l.drop n) a' w') (l.take n) a) : (Code.region id l.toArray true).wp P Q a w := by
  simp only [Region.lexTailB, Bool.and_eq_true, decide_eq_true_eq] at hB
  obtain ⟨⟨⟨⟨hsel, hn⟩, hs⟩, hc⟩, hlex⟩ := hB
  have hn' : n < l.length := by simpa using hn
  have htl : (l.take n).length = n := by simp; omega
  have hdl : (l.drop n).length = l.toArray.size - n := by simp
  have inv0 : HeadInv .any l.toArray n (Array.replicate l.toArray.size false) :=
    ⟨by simp, fun j oj _ hl => (by rw [getD_replicate_false] at hl; cases hl), fun t _ ht => getD_in (by simpa using ht) (getD_replicate_false _ _)⟩
  have H := Head.lex (md := .any) (g := l.toArray.size - n) hsel hs hc hn (l.take n) 0 _ a (fun j hj => by
    have hj' : j < n := by rw [htl] at hj; exact hj
    simp [hj']) (by simpa using htl) inv0 (by rw [htl]; exact hlex) h
  refine wp_region_any hm ?_
  have := Head.any (Q := Q) (g := l.toArray.size - n) (fun l' a' w' hw' hL => by
    have := wpAny_of_seq (md := .any) (Q' := Q) (l.drop n) n l' a' w' (fun j => by simp [List.getElem?_drop]) (by rw [hdl]; exact hL.1) (hL.2 w' hw')
    rwa [hdl] at this) _ _ _ w.drew hC H
  rw [htl, show n + (l.toArray.size - n) = l.toArray.size by omega] at this
  exact this
end

section
variable {P : Program} {X : Type} {F : X → World}
/-- a region whose calls may make memory: the worlds F x -/
theorem wp_family {id : Nat} {Q : Exit → Act → World → Prop} {a : Act} {w : World} {l : List Oper} (hm : P.follows .mixedOrders = true) (hB : Region.lexB .any l.toArray = true) (F : X → World) (x0 : X) (h0 : F x0 = w.drew)
    (h : wpQuiet P l.toArray (fun w' => ∃ x, w' = F x) (fun a' => ∀ x, Q .normal a' (F x)) l a) : (Code.region id l.toArray true).wp P Q a w := by
  refine wp_region_quiet (C := fun w' => ∃ x, w' = F x) hm hB ⟨x0, h0.symm⟩ ?_
  have : ∀ (os : List Oper) (a : Act), wpQuiet P l.toArray (fun w' => ∃ x, w' = F x) (fun a' => ∀ x, Q .normal a' (F x)) os a → wpQuiet P l.toArray (fun w' => ∃ x, w' = F x) (fun a' => ∀ w', (∃ x, w' = F x) → Q .normal a' w') os a := by
    intro os
    induction os with
    | nil => intro a h w' ⟨x, hx⟩; subst hx; exact h x
    | cons o os ih =>
      intro a h
      unfold wpQuiet at h ⊢
      split
      · rename_i hw; rw [if_pos hw] at h; exact Oper.quiet_mono ih h
      · rename_i hw; rw [if_neg hw] at h; exact ih _ h
  simpa using this _ _ h
theorem wp_family_tail {id : Nat} {Q : Exit → Act → World → Prop} {a : Act} {w : World} {l : List Oper} (n : Nat) (hm : P.follows .mixedOrders = true) (hB : Region.lexTailB .any l.toArray n = true) (F : X → World) (x0 : X) (h0 : F x0 = w.drew)
    (h : wpQuiet P l.toArray (fun w' => ∃ x, w' = F x) (fun a' => ∀ x, wpList P l.toArray Q (l.drop n) a' (F x)) (l.take n) a) : (Code.region id l.toArray true).wp P Q a w := by
  refine wp_class_tail (C := fun w' => ∃ x, w' = F x) n hm hB ⟨x0, h0.symm⟩ ?_
  have : ∀ (os : List Oper) (a : Act), wpQuiet P l.toArray (fun w' => ∃ x, w' = F x) (fun a' => ∀ x, wpList P l.toArray Q (l.drop n) a' (F x)) os a → wpQuiet P l.toArray (fun w' => ∃ x, w' = F x) (fun a' => ∀ w', (∃ x, w' = F x) → wpList P l.toArray Q (l.drop n) a' w') os a := by
    intro os
    induction os with
    | nil => intro a h w' ⟨x, hx⟩; subst hx; exact h x
    | cons o os ih =>
      intro a h
      unfold wpQuiet at h ⊢
      split
      · rename_i hw; rw [if_pos hw] at h; exact Oper.quiet_mono ih h
      · rename_i hw; rw [if_neg hw] at h; exact ih _ h
  exact this _ _ h
end
/-- the family of all worlds in which what was there before is as it was -/
structure Fam (w : World) {X : Type} (F : X → World) : Prop where
  ne : Nonempty X
  own : ∀ x, Only (fun _ => False) w (F x)
  next : ∀ x W, Only (fun _ => False) (F x) W → ∃ y, W = F y
  start : ∃ x0, F x0 = w.drew
theorem fam (w : World) : ∃ (X : Type) (F : X → World), Fam w F :=
  ⟨{W : World // Only (fun _ => False) w W}, Subtype.val, ⟨⟨w, Only.refl _ _⟩⟩, fun x => x.2, fun x W o => ⟨⟨W, x.2.trans o (fun _ _ h => h)⟩, rfl⟩, ⟨w.drew, (Only.refl _ w).drew⟩, rfl⟩
section
variable {P : Program} {X : Type} {F : X → World} {w : World}
theorem Fam.region {id : Nat} {Q : Exit → Act → World → Prop} {a : Act} {l : List Oper} (h : Fam w F) (hm : P.follows .mixedOrders = true) (hB : Region.lexB .any l.toArray = true)
    (hq : wpQuiet P l.toArray (fun w' => ∃ x, w' = F x) (fun a' => ∀ x, Q .normal a' (F x)) l a) : (Code.region id l.toArray true).wp P Q a w := by
  obtain ⟨x0, h0⟩ := h.start
  exact wp_family hm hB F x0 h0 hq
theorem Fam.tail {id : Nat} {Q : Exit → Act → World → Prop} {a : Act} {l : List Oper} (h : Fam w F) (n : Nat) (hm : P.follows .mixedOrders = true) (hB : Region.lexTailB .any l.toArray n = true)
    (hq : wpQuiet P l.toArray (fun w' => ∃ x, w' = F x) (fun a' => ∀ x, wpList P l.toArray Q (l.drop n) a' (F x)) (l.take n) a) : (Code.region id l.toArray true).wp P Q a w := by
  obtain ⟨x0, h0⟩ := h.start
  exact wp_family_tail n hm hB F x0 h0 hq
/-- a call of such a region, by its contract -/
theorem Fam.call (h : Fam w F) {x : X} {f : FuncId} {args : Array Value} {v : Value}
    (hc : Calls P f args (F x) fun e w' => e = .returned v ∧ Only (fun _ => False) (F x) w') : Calls P f args (F x) fun e w'' => e = .returned v ∧ ∃ y, w'' = F y :=
  hc.mono fun _ _ ⟨h1, o⟩ => ⟨h1, h.next x _ o⟩
theorem Fam.call_drew (h : Fam w F) {x : X} {f : FuncId} {args : Array Value} {v : Value}
    (hc : Calls P f args (F x) fun e w' => e = .returned v ∧ ∃ n, w' = (F x).drewN n) : Calls P f args (F x) fun e w'' => e = .returned v ∧ ∃ y, w'' = F y :=
  h.call (hc.mono fun _ _ ⟨h1, n, hn⟩ => ⟨h1, by rw [hn]; exact (Only.refl _ _).drewN n⟩)
theorem Fam.call_same (h : Fam w F) {x : X} {f : FuncId} {args : Array Value} {v : Value}
    (hc : Calls P f args (F x) fun e w' => e = .returned v ∧ F x = w') : Calls P f args (F x) fun e w'' => e = .returned v ∧ ∃ y, w'' = F y :=
  h.call (hc.mono fun _ _ ⟨h1, hn⟩ => ⟨h1, by rw [← hn]; exact Only.refl _ _⟩)
theorem Fam.cell (h : Fam w F) {p : Addr} {v : Value} (hv : w.cell? p = some v) : ∀ x, (F x).cell? p = some v := fun x => (h.own x).cell hv (fun h => h)
theorem Fam.frozen (h : Fam w F) {g : Nat} {t : TypeId} {cs : List Value} (hg : At w g t cs) (i : Nat) : ∀ x, (F x).frozen? ⟨g, i, none⟩ = false := fun x => (hg.only (h.own x) (fun h => h)).frozen i
end
end Go.Proofs.YtoekhpnapnhefaaGreatDoor

namespace Go.Proofs.YtoekhpnapnhefaaGreatDoor
open Go.RowKit
set_option linter.unusedVariables false
set_option linter.unusedSimpArgs false

/-- v is a slice of cells of one cell each, made since w0 (or nil); nothing that was there at w0 has changed -/
structure OB (t : TypeId) (w0 W : World) (v : Value) (xs : List Value) : Prop where
  own : Ow W t 1 v xs.length xs
  new : ∀ k, v.ownBlock = some k → w0.heap.size ≤ k
  only : Only (fun _ => False) w0 W
section
variable {t : TypeId} {w0 w W W' : World} {v : Value} {xs : List Value} {S : Nat → Prop}
theorem OB.nil (t : TypeId) (w0 W : World) (o : Only (fun _ => False) w0 W) : OB t w0 W (.slice none 0 0) [] := ⟨Ow.nil _ _ _, fun k h => by simp [Value.ownBlock] at h, o⟩
theorem OB.keep (h : OB t w0 W v xs) (o : Only (fun _ => False) W W') : OB t w0 W' v xs := ⟨h.own.only o (fun _ _ h => h), h.new, h.only.trans o (fun _ _ h => h)⟩
theorem OB.far (h : OB t w0 W v xs) (o : Only S W W') (hS : ∀ k, S k → w0.heap.size ≤ k ∧ v.ownBlock ≠ some k) : OB t w0 W' v xs :=
  ⟨h.own.only o (fun k hk hs => (hS k hs).2 hk), h.new, h.only.trans (o.mono (T := fun k => w0.heap.size ≤ k) (fun k _ hs => (hS k hs).1)) (fun k hk h1 => by omega)⟩
theorem OB.alloc (h : OB t w0 W v xs) (o : Obj) : OB t w0 (W.alloc o) v xs := h.keep ((Only.refl _ W).alloc o)
theorem OB.drew (h : OB t w0 W v xs) : OB t w0 W.drew v xs := h.keep (Only.refl _ W).drew
theorem OB.shape (h : OB t w0 W v xs) : ∃ A c, v = .slice A xs.length c := h.own.shape
theorem OB.at_ (h : OB t w0 W v xs) (hn : 0 < xs.length) : ∃ g cap sp, v = .slice (some ⟨g, 0, none⟩) xs.length cap ∧ At W g t (xs ++ sp) ∧ xs.length ≤ cap ∧ cap ≤ maxLen ∧ w0.heap.size ≤ g := by
  obtain ⟨g, cap, sp, h1, h2, h3, h4, h5⟩ := h.own.at_ hn
  exact ⟨g, cap, sp, h1, h2, h3, h4, h.new g (by rw [h1]; rfl)⟩
/-- made by a literal -/
theorem OB.lit (w : World) (t : TypeId) (xs : List Value) (hm : xs.length ≤ maxLen) : OB t w (w.alloc (.cells xs.toArray t)) (.slice (some ⟨w.heap.size, 0, none⟩) xs.length xs.length) xs :=
  ⟨Ow.mk (sp := []) (by rw [List.append_nil]; exact At.new w t xs) (by rw [Nat.mul_one]) (Nat.le_refl _) hm (by rw [List.append_nil, Nat.mul_one]), fun k h => by simp [Value.ownBlock] at h; omega, (Only.refl _ w).alloc _⟩
end
section
variable {P : Program} {t : TypeId} {w0 w : World} {ops : Array Oper} {rest : List Oper} {o : Oper} {a : Act} {Q : Exit → Act → World → Prop}
/-- append in a plain region -/
theorem wpl_app_ob (hgd : o.guard = none) (s x : Operand) (T : TypeId) (ho : o.op = .call { callee := .builtin .append, args := #[s, x], argTypes := #[T, T] }) (z : Value) (bytes : Nat) (hT : P.underlying T = some (.slice t))
    (hinfo : (P.info? t).map (fun i => (i.zero, i.size, i.bytes)) = some (some z, 1, bytes)) (hzs : z.cells.size = 1) (v : Value) (xs : List Value) (hs : a.eval s = v) (hob : OB t w0 w v xs)
    (ad : Addr) (m c : Nat) (news : List Value) (hx : a.eval x = .slice (some ad) m c) (hl : news.length = m) (hnews : ∀ j u, news[j]? = some u → w.cell? (ad.add j) = some u) (h1 : ∀ u ∈ news, u.oneCell' = true) (h47 : (xs.length + m) * bytes ≤ 140737488355328) (h63 : xs.length + m ≤ 9223372036854775807)
    (h : ∀ A cap w' n, n = xs.length + m → OB t w0 w' (.slice A n cap) (xs ++ news) → Only (fun k => v.ownBlock = some k) w w' → ((Value.slice A n cap).ownBlock = v.ownBlock ∨ (Value.slice A n cap).ownBlock = some w.heap.size) → wpList P ops Q rest (a.put o.dst (.slice A n cap)) w') :
    wpList P ops Q (o :: rest) a w := by
  obtain ⟨i, hi, hz, hsz, hby⟩ := info_parts hinfo
  refine wpl_app hgd s x T ho t i z 1 bytes hT hi hz hsz hby hzs (by decide) v xs.length xs hs hob.own ad m c news hx (by rw [hl, Nat.mul_one]) hnews h1 (by unfold maxLen; omega) h47 ?_
  intro v' w' h2 h3 h4 _
  obtain ⟨A, cap, rfl⟩ := h2.shape
  have ho : Only (fun k => v.ownBlock = some k) w w' := (Only.refl _ w).grown h3 (fun k hk _ => hk)
  refine h A cap w' _ rfl ⟨by rw [List.length_append, hl]; exact h2, fun k hk => ?_, ?_⟩ ho h4
  · rcases h4 with h5 | h5
    · exact hob.new k (by rw [← h5]; exact hk)
    · rw [h5] at hk
      have := hob.only.size
      injection hk with hk; omega
  · exact hob.only.trans (ho.mono (T := fun k => w0.heap.size ≤ k) (fun k _ hk => hob.new k hk)) (fun k hk h1 => by omega)
/-- append as one step of a region that draws its order -/
theorem step_app_ob {K : Act → World → Prop} {E : Prop} (hgd : o.guard = none) (s x : Operand) (T : TypeId) (ho : o.op = .call { callee := .builtin .append, args := #[s, x], argTypes := #[T, T] }) (z : Value) (bytes : Nat) (hT : P.underlying T = some (.slice t))
    (hinfo : (P.info? t).map (fun i => (i.zero, i.size, i.bytes)) = some (some z, 1, bytes)) (hzs : z.cells.size = 1) (v : Value) (xs : List Value) (hs : a.eval s = v) (hob : OB t w0 w v xs)
    (ad : Addr) (m c : Nat) (news : List Value) (hx : a.eval x = .slice (some ad) m c) (hl : news.length = m) (hnews : ∀ j u, news[j]? = some u → w.cell? (ad.add j) = some u) (h1 : ∀ u ∈ news, u.oneCell' = true) (h47 : (xs.length + m) * bytes ≤ 140737488355328) (h63 : xs.length + m ≤ 9223372036854775807)
    (h : ∀ A cap w' n, n = xs.length + m → OB t w0 w' (.slice A n cap) (xs ++ news) → Only (fun k => v.ownBlock = some k) w w' → ((Value.slice A n cap).ownBlock = v.ownBlock ∨ (Value.slice A n cap).ownBlock = some w.heap.size) → K (a.put o.dst (.slice A n cap)) w') :
    if Region.wanted o (yielded ops a.tmps) = true then Oper.wp P o a w K Q else E := by
  obtain ⟨i, hi, hz, hsz, hby⟩ := info_parts hinfo
  refine step_app hgd s x T ho t i z 1 bytes hT hi hz hsz hby hzs (by decide) v xs.length xs hs hob.own ad m c news hx (by rw [hl, Nat.mul_one]) hnews h1 (by unfold maxLen; omega) h47 ?_
  intro v' w' h2 h3 h4 _
  obtain ⟨A, cap, rfl⟩ := h2.shape
  have ho : Only (fun k => v.ownBlock = some k) w w' := (Only.refl _ w).grown h3 (fun k hk _ => hk)
  refine h A cap w' _ rfl ⟨by rw [List.length_append, hl]; exact h2, fun k hk => ?_, ?_⟩ ho h4
  · rcases h4 with h5 | h5
    · exact hob.new k (by rw [← h5]; exact hk)
    · rw [h5] at hk
      have := hob.only.size
      injection hk with hk; omega
  · exact hob.only.trans (ho.mono (T := fun k => w0.heap.size ≤ k) (fun k _ hk => hob.new k hk)) (fun k hk h1 => by omega)
end
theorem infoByte : (Tryz.prog.info? 5).map (fun i => (i.zero, i.size, i.bytes)) = some (some (.int .u8 0), 1, 1) := by kernel_rfl
theorem infoInt : (Tryz.prog.info? 3).map (fun i => (i.zero, i.size, i.bytes)) = some (some (.int .i64 0), 1, 8) := by kernel_rfl
theorem one_cell {w : World} {t : TypeId} (v : Value) : ∀ j u, [v][j]? = some u → (w.alloc (.cells #[v] t)).cell? ((⟨w.heap.size, 0, none⟩ : Addr).add j) = some u := fun j u hj => At.news' (At.new w t [v]) j u hj
end Go.Proofs.YtoekhpnapnhefaaGreatDoor

namespace Go.Proofs.YtoekhpnapnhefaaGreatDoor
open Go.RowKit
set_option linter.unusedVariables false
set_option linter.unusedSimpArgs false

theorem grownBy_refl (w : World) (row : Option Nat) : w.grownBy w row := ⟨rfl, rfl, rfl, Nat.le_refl _, fun _ _ _ => rfl⟩
section
variable {P : Program} {t : TypeId} {w0 w : World} {ops : Array Oper} {rest : List Oper} {o : Oper} {a : Act} {Q : Exit → Act → World → Prop}
theorem wpl_app_ob2 (hgd : o.guard = none) (s x : Operand) (T : TypeId) (ho : o.op = .call { callee := .builtin .append, args := #[s, x], argTypes := #[T, T] }) (z : Value) (bytes : Nat) (hT : P.underlying T = some (.slice t))
    (hinfo : (P.info? t).map (fun i => (i.zero, i.size, i.bytes)) = some (some z, 1, bytes)) (hzs : z.cells.size = 1) (v : Value) (xs : List Value) (hs : a.eval s = v) (hob : OB t w0 w v xs)
    (v2 : Value) (news : List Value) (hx : a.eval x = v2) (hox : Ow w t 1 v2 news.length news) (h1 : ∀ u ∈ news, u.oneCell' = true) (h47 : (xs.length + news.length) * bytes ≤ 140737488355328) (h63 : xs.length + news.length ≤ 9223372036854775807)
    (h : ∀ A cap w' n, n = xs.length + news.length → OB t w0 w' (.slice A n cap) (xs ++ news) → Only (fun k => v.ownBlock = some k) w w' → ((Value.slice A n cap).ownBlock = v.ownBlock ∨ (Value.slice A n cap).ownBlock = some w.heap.size) → wpList P ops Q rest (a.put o.dst (.slice A n cap)) w') :
    wpList P ops Q (o :: rest) a w := by
  rcases hox.form with ⟨rfl, h2, h3⟩ | ⟨g, cap, sp, rfl, h2, h3, h4, h5⟩
  · obtain ⟨i, hi, hz, hsz, hby⟩ := info_parts hinfo
    subst h3
    refine wpList_plain hgd fun _ hK => ?_
    have hr := run_append_owned_none (P := P) (w := w) 0 T o.type t i 1 hT hi v xs.length xs hob.own
    unfold Oper.wp execOp
    simp only [ho, resolve, invoke, builtin, Sem.run_bind, Sem.run_pure, Result.andThen_ok, List.map_toArray, List.map_cons, List.map_nil, hs, hx, hr]
    obtain ⟨A, c, rfl⟩ := hob.shape
    exact hK _ _ (h A c w _ (by simp) (by simpa using hob) (Only.refl _ _) (.inl rfl))
  · exact wpl_app_ob hgd s x T ho z bytes hT hinfo hzs v xs hs hob ⟨g, 0, none⟩ news.length cap news hx rfl (At.news h2) h1 h47 h63 h
end
end Go.Proofs.YtoekhpnapnhefaaGreatDoor

namespace Go.Proofs.YtoekhpnapnhefaaGreatDoor
open Go.RowKit
set_option linter.unusedVariables false
set_option linter.unusedSimpArgs false

/-- two signatures are equal as their numbers are -/
theorem eql_sig (w : World) (a b c d : Int) : (binOp .eql 69 (.agg #[.int .i64 a, .int .i64 b]) (.agg #[.int .i64 c, .int .i64 d])).run Tryz.prog w = .ok (.bool (a == c && b == d)) w := by
  rw [run_eql_struct]
  go_simp
  by_cases h1 : a = c <;> by_cases h2 : b = d <;> simp [h1, h2]
theorem eql_sig_same (w : World) (a b : Int) : (binOp .eql 69 (.agg #[.int .i64 a, .int .i64 b]) (.agg #[.int .i64 a, .int .i64 b])).run Tryz.prog w = .ok (.bool true) w := by
  rw [eql_sig]; simp
theorem neq_sig (w : World) (a b c d : Int) : (binOp .neq 69 (.agg #[.int .i64 a, .int .i64 b]) (.agg #[.int .i64 c, .int .i64 d])).run Tryz.prog w = .ok (.bool (!(a == c && b == d))) w := by
  rw [run_neq_struct]
  go_simp
  by_cases h1 : a = c <;> by_cases h2 : b = d <;> simp [h1, h2]
/-- an operation on two values, by its run -/
theorem wpl_bin {P : Program} {ops : Array Oper} {rest : List Oper} {o : Oper} {a : Act} {w : World} {Q : Exit → Act → World → Prop} (hw : Region.wanted o (yielded ops a.tmps) = true) (op : BinOp) (t u : TypeId) (x y : Operand) (ho : o.op = .binOp op t x y u) (v1 v2 r : Value) (hx : a.eval x = v1) (hy : a.eval y = v2)
    (hg : (eqGuard op t x y v1 v2).run P w = .ok () w) (hr : (binOp op t v1 v2).run P w = .ok r w) (h : wpList P ops Q rest (a.put o.dst r) w) : wpList P ops Q (o :: rest) a w := by
  refine wpList_step fun K hK => ?_
  rw [if_pos hw]
  unfold Oper.wp execOp
  simp only [ho, hx, hy, Sem.run_bind, hg, hr, Result.andThen_ok]
  exact hK _ _ h
theorem guard_sig (w : World) (x y : Operand) (a b c d : Int) : (eqGuard .eql 69 x y (.agg #[.int .i64 a, .int .i64 b]) (.agg #[.int .i64 c, .int .i64 d])).run Tryz.prog w = .ok () w := by
  go_simp
end Go.Proofs.YtoekhpnapnhefaaGreatDoor

namespace Go.Proofs.YtoekhpnapnhefaaGreatDoor
set_option linter.unusedVariables false
set_option linter.unusedSimpArgs false

def IsPrime (p : Nat) : Prop := 1 < p ∧ ∀ d, d ∣ p → d = 1 ∨ d = p

theorem IsPrime.cop {p a : Nat} (h : IsPrime p) (ha : ¬ p ∣ a) : Nat.Coprime p a := by
  rcases h.2 _ (Nat.gcd_dvd_left p a) with h1 | h1
  · exact h1
  · exact absurd (h1 ▸ Nat.gcd_dvd_right p a) ha
theorem IsPrime.mul {p a b : Nat} (h : IsPrime p) (hd : p ∣ a * b) : p ∣ a ∨ p ∣ b := by
  rcases Decidable.em (p ∣ a) with h1 | h1
  · exact .inl h1
  · exact .inr ((h.cop h1).dvd_of_dvd_mul_left hd)
theorem IsPrime.of_pow {p a : Nat} (h : IsPrime p) : ∀ n, p ∣ a ^ n → p ∣ a
  | 0, hd => by have := Nat.le_of_dvd (by simp) hd; have := h.1; simp at *; omega
  | n + 1, hd => by
    rw [Nat.pow_succ] at hd
    rcases h.mul hd with h1 | h1
    · exact h.of_pow n h1
    · exact h1

theorem mod_eq_of_dvd {m a b : Nat} (h : a ≤ b) (hd : m ∣ b - a) : a % m = b % m := by
  obtain ⟨k, hk⟩ := hd
  have e : b = a + m * k := by omega
  rw [e, Nat.add_mul_mod_self_left]
theorem dvd_of_mod_eq {m a b : Nat} (h : a % m = b % m) : m ∣ b - a := Nat.dvd_of_mod_eq_zero (Nat.sub_mod_eq_zero_of_mod_eq h.symm)

/-- cancelling a factor that is coprime to the modulus -/
theorem mod_cancel {m c a b : Nat} (hc : Nat.Coprime m c) (h : c * a % m = c * b % m) : a % m = b % m := by
  rcases Nat.le_total a b with hab | hab
  · have h1 := dvd_of_mod_eq h
    rw [← Nat.mul_sub] at h1
    exact mod_eq_of_dvd hab (hc.dvd_of_dvd_mul_left h1)
  · have h1 := dvd_of_mod_eq h.symm
    rw [← Nat.mul_sub] at h1
    exact (mod_eq_of_dvd hab (hc.dvd_of_dvd_mul_left h1)).symm

theorem perm_of_nodup {α : Type} [DecidableEq α] : ∀ (l m : List α), l.Nodup → (∀ x ∈ l, x ∈ m) → l.length = m.length → l.Perm m
  | [], m, _, _, hl => by
    have : m = [] := List.eq_nil_of_length_eq_zero hl.symm
    subst this
    exact List.Perm.refl _
  | x :: l, m, hn, hs, hl => by
    have hx : x ∈ m := hs x (by simp)
    have hn' := List.nodup_cons.1 hn
    refine (List.Perm.cons x (perm_of_nodup l (m.erase x) hn'.2 (fun y hy => ?_) ?_)).trans (List.perm_cons_erase hx).symm
    · have hne : y ≠ x := by rintro rfl; exact hn'.1 hy
      exact (List.mem_erase_of_ne hne).2 (hs y (by simp [hy]))
    · rw [List.length_erase_of_mem hx]
      simp at hl
      omega

def prodL (l : List Nat) : Nat := l.foldr (· * ·) 1
theorem prodL_perm {l m : List Nat} (h : l.Perm m) : prodL l = prodL m := by
  induction h with
  | nil => rfl
  | cons x _ ih => simp only [prodL, List.foldr_cons] at *; rw [ih]
  | swap x y l => simp only [prodL, List.foldr_cons]; rw [Nat.mul_left_comm]
  | trans _ _ ih1 ih2 => exact ih1.trans ih2
theorem prodL_map (a m : Nat) : ∀ l : List Nat, prodL (l.map fun x => a * x % m) % m = a ^ l.length * prodL l % m
  | [] => by simp [prodL]
  | x :: l => by
    have ih := prodL_map a m l
    simp only [prodL, List.map_cons, List.foldr_cons, List.length_cons] at *
    rw [Nat.mul_mod, Nat.mod_mod, ih, ← Nat.mul_mod, Nat.pow_succ]
    congr 1
    simp only [Nat.mul_assoc, Nat.mul_left_comm]
theorem prodL_cop {p : Nat} (h : IsPrime p) : ∀ l : List Nat, (∀ x ∈ l, ¬ p ∣ x) → Nat.Coprime p (prodL l)
  | [], _ => by simp [prodL]
  | x :: l, hl => by
    have ih := prodL_cop h l (fun y hy => hl y (by simp [hy]))
    simp only [prodL, List.foldr_cons] at *
    exact Nat.Coprime.mul_right (h.cop (hl x (by simp))) ih

/-- Fermat -/
theorem fermat {p a : Nat} (h : IsPrime p) (ha : ¬ p ∣ a) : a ^ (p - 1) % p = 1 := by
  have h1 := h.1
  have hp : 0 < p := by omega
  let L := (List.range (p - 1)).map (· + 1)
  have hL : ∀ x, x ∈ L ↔ 0 < x ∧ x < p := by
    intro x
    simp only [L, List.mem_map, List.mem_range]
    exact ⟨fun ⟨y, hy, e⟩ => by omega, fun hx => ⟨x - 1, by omega, by omega⟩⟩
  have hnd : L.Nodup := by
    refine List.Pairwise.map _ (fun x y hne => ?_) List.nodup_range
    simpa using hne
  have hlen : L.length = p - 1 := by simp [L]
  have hdv : ∀ x, 0 < x → x < p → ¬ p ∣ x := fun x h0 h1 hd => by have := Nat.le_of_dvd h0 hd; omega
  have hperm : (L.map fun x => a * x % p).Perm L := by
    refine perm_of_nodup _ _ ?_ ?_ (by simp)
    · rw [List.nodup_iff_pairwise_ne] at *
      rw [List.pairwise_map]
      refine hnd.imp_of_mem ?_
      intro x y hx hy hne e
      have := mod_cancel (h.cop ha) e
      have hx' := (hL x).1 hx
      have hy' := (hL y).1 hy
      rw [Nat.mod_eq_of_lt hx'.2, Nat.mod_eq_of_lt hy'.2] at this
      exact hne this
    · intro y hy
      simp only [List.mem_map] at hy
      obtain ⟨x, hx, rfl⟩ := hy
      refine (hL _).2 ⟨?_, Nat.mod_lt _ hp⟩
      rcases Nat.eq_zero_or_pos (a * x % p) with h0 | h0
      · have hx' := (hL x).1 hx
        rcases h.mul (Nat.dvd_of_mod_eq_zero h0) with h2 | h2
        · exact absurd h2 ha
        · exact absurd h2 (hdv x hx'.1 hx'.2)
      · exact h0
  have e := prodL_map a p L
  rw [prodL_perm hperm, hlen] at e
  have hc : Nat.Coprime p (prodL L) := prodL_cop h L fun x hx => hdv x ((hL x).1 hx).1 ((hL x).1 hx).2
  have := mod_cancel (a := 1) (b := a ^ (p - 1)) hc (by rw [Nat.mul_one, Nat.mul_comm]; exact (Nat.mul_comm _ _ ▸ e))
  rw [← this, Nat.mod_eq_of_lt h1]

theorem pow_mod_one {m a n : Nat} (h : a ^ n % m = 1 % m) (k : Nat) : a ^ (n * k) % m = 1 % m := by
  rw [Nat.pow_mul, Nat.pow_mod, h, ← Nat.pow_mod, Nat.one_pow]
/-- two exponents with power 1: their common divisor has, too -/
theorem pow_gcd {m a : Nat} (x y : Nat) : a ^ x % m = 1 % m → a ^ y % m = 1 % m → a ^ (Nat.gcd x y) % m = 1 % m := by
  induction x, y using Nat.gcd.induction with
  | H0 n => intro _ h; rw [Nat.gcd_zero_left]; exact h
  | H1 x y hx ih =>
    intro h1 h2
    rw [Nat.gcd_rec]
    refine ih ?_ h1
    have e : a ^ y = a ^ (x * (y / x)) * a ^ (y % x) := by rw [← Nat.pow_add, Nat.div_add_mod]
    rw [e, Nat.mul_mod, pow_mod_one h1] at h2
    rw [← h2, ← Nat.mul_mod, Nat.one_mul]

/-- a number that has no divisor whose square is not greater is prime -/
theorem prime_of_small {n : Nat} (hn : 1 < n) (h : ∀ p, IsPrime p → p ∣ n → p * p ≤ n → False) : IsPrime n := by
  have fac : ∀ m, 1 < m → ∃ p, IsPrime p ∧ p ∣ m := by
    intro m
    induction m using Nat.strongRecOn with
    | ind m ih =>
      intro hm
      by_cases hp : IsPrime m
      · exact ⟨m, hp, Nat.dvd_refl _⟩
      · have : ¬ ∀ d, d ∣ m → d = 1 ∨ d = m := fun h => hp ⟨hm, h⟩
        have : ∃ d, d ∣ m ∧ d ≠ 1 ∧ d ≠ m := by
          apply Classical.byContradiction
          intro hne
          exact this fun d hd => by
            by_cases h1 : d = 1
            · exact .inl h1
            · by_cases h2 : d = m
              · exact .inr h2
              · exact absurd ⟨d, hd, h1, h2⟩ hne
        obtain ⟨d, hd, h1, h2⟩ := this
        have hle := Nat.le_of_dvd (by omega) hd
        have h0 : d ≠ 0 := by rintro rfl; have := Nat.eq_zero_of_zero_dvd hd; omega
        obtain ⟨p, hp1, hp2⟩ := ih d (by omega) (by omega)
        exact ⟨p, hp1, Nat.dvd_trans hp2 hd⟩
  refine ⟨hn, fun d hd => ?_⟩
  apply Classical.byContradiction
  intro hne
  have h1 : d ≠ 1 := fun e => hne (.inl e)
  have h2 : d ≠ n := fun e => hne (.inr e)
  obtain ⟨e, rfl⟩ := hd
  have hd0 : d ≠ 0 := by rintro rfl; omega
  have he0 : e ≠ 0 := by rintro rfl; simp at hn
  have he1 : e ≠ 1 := by rintro rfl; simp at h2
  rcases Nat.le_total d e with hle | hle
  · obtain ⟨p, hp, hpd⟩ := fac d (by omega)
    have := Nat.le_of_dvd (by omega) hpd
    exact h p hp (Nat.dvd_trans hpd (Nat.dvd_mul_right _ _)) (Nat.mul_le_mul this (by omega))
  · obtain ⟨p, hp, hpe⟩ := fac e (by omega)
    have := Nat.le_of_dvd (by omega) hpe
    exact h p hp (Nat.dvd_trans hpe (Nat.dvd_mul_left _ _)) (Nat.mul_le_mul (by omega) this)

/-- Pocklington -/
theorem pocklington {n q r a : Nat} (hn : 1 < n) (hq : IsPrime q) (e : n - 1 = q * r) (hlt : n < (q + 1) * (q + 1)) (h1 : a ^ (n - 1) % n = 1) (h2 : Nat.gcd (a ^ r % n + (n - 1)) n = 1) : IsPrime n := by
  refine prime_of_small hn fun p hp hpn hpp => ?_
  have hp1 := hp.1
  have hmp : ∀ {x y : Nat}, x % n = y % n → x % p = y % p := fun {x y} h => by
    have := congrArg (· % p) h
    simpa [Nat.mod_mod_of_dvd _ hpn] using this
  have g1 : a ^ (n - 1) % p = 1 % p := hmp (by rw [h1, Nat.mod_eq_of_lt hn])
  have ha : ¬ p ∣ a := fun hd => by
    have h0 : a ^ (n - 1) % p = 0 := Nat.mod_eq_zero_of_dvd (Nat.dvd_trans hd ⟨a ^ (n - 1 - 1), by rw [← Nat.pow_succ']; congr 1; omega⟩)
    rw [h0, Nat.mod_eq_of_lt hp1] at g1
    omega
  have hf : a ^ (p - 1) % p = 1 % p := by rw [fermat hp ha, Nat.mod_eq_of_lt hp1]
  by_cases hqp : q ∣ p - 1
  · have := Nat.le_of_dvd (by omega) hqp
    have : (q + 1) * (q + 1) ≤ p * p := Nat.mul_le_mul (by omega) (by omega)
    omega
  · have hg := pow_gcd _ _ g1 hf
    have hd : Nat.gcd (n - 1) (p - 1) ∣ r := by
      have c : Nat.Coprime (Nat.gcd (n - 1) (p - 1)) q := by
        refine Nat.Coprime.symm (hq.cop fun hd => hqp (Nat.dvd_trans hd (Nat.gcd_dvd_right _ _)))
      refine c.dvd_of_dvd_mul_left ?_
      rw [← e]
      exact Nat.gcd_dvd_left _ _
    obtain ⟨k, hk⟩ := hd
    have hr : a ^ r % p = 1 % p := by rw [hk]; exact pow_mod_one hg k
    have : p ∣ a ^ r % n + (n - 1) := by
      have e1 : (a ^ r % n + (n - 1)) % p = 0 := by
        rw [Nat.add_mod, Nat.mod_mod_of_dvd _ hpn, hr, ← Nat.add_mod]
        rw [show 1 + (n - 1) = n by omega]
        exact Nat.mod_eq_zero_of_dvd hpn
      exact Nat.dvd_of_mod_eq_zero e1
    have := Nat.dvd_gcd this hpn
    rw [h2] at this
    have := Nat.le_of_dvd (by omega) this
    omega

/-- powers, by squaring -/
def pw (m : Nat) : Nat → Nat → Nat → Nat
  | 0, _, _ => 1 % m
  | f + 1, a, n => match n with
    | 0 => 1 % m
    | n + 1 => if (n + 1) % 2 = 1 then pw m f (a * a % m) ((n + 1) / 2) * a % m else pw m f (a * a % m) ((n + 1) / 2)
theorem pw_eq (m : Nat) : ∀ f a n, n < 2 ^ f → pw m f a n = a ^ n % m
  | 0, a, n, h => by
    have : n = 0 := by simp at h; omega
    subst this; simp [pw]
  | f + 1, a, 0, _ => by simp [pw]
  | f + 1, a, n + 1, h => by
    have ih := pw_eq m f (a * a % m) ((n + 1) / 2) (by rw [Nat.pow_succ] at h; omega)
    have e : (a * a % m) ^ ((n + 1) / 2) % m = a ^ (2 * ((n + 1) / 2)) % m := by
      rw [← Nat.pow_mod, ← Nat.pow_two, ← Nat.pow_mul]
    simp only [pw, ih, e]
    by_cases h2 : (n + 1) % 2 = 1
    · rw [if_pos h2, Nat.mod_mul_mod, ← Nat.pow_succ]
      congr 2
      omega
    · rw [if_neg h2]
      congr 2
      omega

theorem pocklington' (n q r a f : Nat) (hn : 1 < n) (hq : IsPrime q) (e : n - 1 = q * r) (hlt : n < (q + 1) * (q + 1)) (hf : n < 2 ^ f) (h1 : pw n f a (n - 1) = 1) (h2 : Nat.gcd (pw n f a r + (n - 1)) n = 1) : IsPrime n := by
  rw [pw_eq _ _ _ _ (by omega)] at h1
  have hr : r < 2 ^ f := by
    have := hq.1
    have : 1 * r ≤ q * r := Nat.mul_le_mul_right r (by omega)
    omega
  rw [pw_eq _ _ _ _ hr] at h2
  exact pocklington hn hq e hlt h1 h2

def noDiv (n : Nat) : Nat → Bool
  | 0 => true
  | k + 1 => (if 2 ≤ k then n % k != 0 else true) && noDiv n k
theorem prime_of_noDiv {n : Nat} (hn : 1 < n) (h : noDiv n n = true) : IsPrime n := by
  have : ∀ m, noDiv n m = true → ∀ k, 2 ≤ k → k < m → n % k ≠ 0 := by
    intro m
    induction m with
    | zero => intro _ k _ hk; omega
    | succ m ih =>
      intro h k h2 hk
      simp only [noDiv, Bool.and_eq_true] at h
      rcases Nat.lt_or_ge k m with h3 | h3
      · exact ih h.2 k h2 h3
      · obtain rfl : k = m := by omega
        have := h.1
        rw [if_pos h2] at this
        simpa using this
  refine ⟨hn, fun d hd => ?_⟩
  have hle := Nat.le_of_dvd (by omega) hd
  rcases Nat.lt_or_ge d 2 with h2 | h2
  · have h0 : d ≠ 0 := by rintro rfl; have := Nat.eq_zero_of_zero_dvd hd; omega
    omega
  · rcases Nat.lt_or_ge d n with h3 | h3
    · exact absurd (Nat.mod_eq_zero_of_dvd hd) (this n h d h2 h3)
    · omega

theorem prime449 : IsPrime 449 := prime_of_noDiv (by decide) (by decide +kernel)
theorem prime95189 : IsPrime 95189 := pocklington' 95189 449 212 2 20 (by decide) prime449 (by decide +kernel) (by decide +kernel) (by decide +kernel) (by decide +kernel) (by decide +kernel)
theorem prime2835870689 : IsPrime 2835870689 := pocklington' 2835870689 95189 29792 3 40 (by decide) prime95189 (by decide +kernel) (by decide +kernel) (by decide +kernel) (by decide +kernel) (by decide +kernel)
theorem prime5671741379 : IsPrime 5671741379 := pocklington' 5671741379 2835870689 2 2 40 (by decide) prime2835870689 (by decide +kernel) (by decide +kernel) (by decide +kernel) (by decide +kernel) (by decide +kernel)
theorem primeR : IsPrime 288230376151711447 := pocklington' 288230376151711447 5671741379 50818674 2 64 (by decide) prime5671741379 (by decide +kernel) (by decide +kernel) (by decide +kernel) (by decide +kernel) (by decide +kernel)

def gQ : Nat := 1152921504606845789
def gP : Nat := 2305843009213691579
theorem primeQ : IsPrime gQ := pocklington' gQ 288230376151711447 4 2 64 (by decide +kernel) primeR (by decide +kernel) (by decide +kernel) (by decide +kernel) (by decide +kernel) (by decide +kernel)
theorem primeP : IsPrime gP := pocklington' gP gQ 2 2 64 (by decide +kernel) primeQ (by decide +kernel) (by decide +kernel) (by decide +kernel) (by decide +kernel) (by decide +kernel)
end Go.Proofs.YtoekhpnapnhefaaGreatDoor

namespace Go.Proofs.YtoekhpnapnhefaaGreatDoor
set_option linter.unusedVariables false
set_option linter.unusedSimpArgs false

/-- the digit is found: y = y1 * B + y0, u < y, u * B + u1 is divided -/
structure Dig (B y1 y0 u u1 q r : Nat) : Prop where
  hr : q * y1 + r = u
  ge : (u * B + u1) / (y1 * B + y0) ≤ q

section
variable {B y1 y0 u u1 q r : Nat}
theorem dig_start (h1 : u1 < B) (hy : 0 < y1) : Dig B y1 y0 u u1 (u / y1) (u % y1) := by
  refine ⟨by rw [Nat.mul_comm]; exact Nat.div_add_mod u y1, ?_⟩
  rw [Nat.le_div_iff_mul_le hy]
  have h := Nat.div_mul_le_self (u * B + u1) (y1 * B + y0)
  generalize (u * B + u1) / (y1 * B + y0) = d at h ⊢
  rw [Nat.mul_add, ← Nat.mul_assoc] at h
  have : d * y1 * B < (u + 1) * B := by rw [Nat.add_mul]; omega
  have := Nat.lt_of_mul_lt_mul_right this
  omega
theorem dig_small (hu : u < y1 * B + y0) (h1 : u1 < B) : (u * B + u1) / (y1 * B + y0) < B := by
  rw [Nat.div_lt_iff_lt_mul (by omega)]
  generalize y1 * B + y0 = y at *
  have : (u + 1) * B ≤ y * B := Nat.mul_le_mul_right _ (by omega)
  rw [Nat.add_mul] at this
  rw [Nat.mul_comm B]
  omega
theorem dig_step (h : Dig B y1 y0 u u1 q r) (hu : u < y1 * B + y0) (h1 : u1 < B) (ht : B ≤ q ∨ r * B + u1 < q * y0) : 0 < q ∧ Dig B y1 y0 u u1 (q - 1) (r + y1) := by
  have hs := dig_small hu h1
  have hge := h.ge
  have hr := h.hr
  have hq : (u * B + u1) / (y1 * B + y0) < q := by
    rcases ht with ht | ht
    · omega
    · rw [Nat.div_lt_iff_lt_mul (by omega)]
      rw [← hr, Nat.mul_add, ← Nat.mul_assoc, Nat.add_mul]
      omega
  have hq0 : 0 < q := Nat.lt_of_le_of_lt (Nat.zero_le _) hq
  refine ⟨hq0, ?_, Nat.le_sub_one_of_lt hq⟩
  obtain ⟨q', rfl⟩ : ∃ q', q = q' + 1 := ⟨q - 1, by omega⟩
  rw [Nat.add_sub_cancel, ← hr, Nat.add_mul]
  omega
theorem dig_end (h : Dig B y1 y0 u u1 q r) (hy : 0 < y1 * B + y0) (ht : q * y0 ≤ r * B + u1) : q = (u * B + u1) / (y1 * B + y0) := by
  refine Nat.le_antisymm ?_ h.ge
  rw [Nat.le_div_iff_mul_le hy, ← h.hr, Nat.mul_add, ← Nat.mul_assoc, Nat.add_mul]
  omega
theorem dig_stop (h : Dig B y1 y0 u u1 q r) (h0 : y0 < B) (hu : u < y1 * B + y0) (hr : B ≤ r) : q * y0 ≤ r * B + u1 := by
  have hh := h.hr
  have hq : q < B := by
    apply Classical.byContradiction
    intro hq
    have : B * y1 ≤ q * y1 := Nat.mul_le_mul_right _ (by omega)
    rw [Nat.mul_comm B] at this
    omega
  have h1 : q * y0 ≤ B * B := Nat.mul_le_mul (by omega) (by omega)
  have h2 : B * B ≤ r * B := Nat.mul_le_mul_right _ hr
  omega
theorem dig_lt (h : Dig B y1 y0 u u1 q r) (h0 : y0 < B) (hu : u < y1 * B + y0) (hr : B ≤ r) : q < B := by
  have hh := h.hr
  apply Classical.byContradiction
  intro hq
  have : B * y1 ≤ q * y1 := Nat.mul_le_mul_right _ (by omega)
  rw [Nat.mul_comm B] at this
  omega
/-- both digits together -/
theorem two_digits (hi lo y s y' un1 un0 q1 r1 q0 : Nat) (hy : y' = y * 2 ^ s) (h1 : (hi * (B * B) + lo) * 2 ^ s = u * (B * B) + un1 * B + un0) (hpos : 0 < y')
    (e1 : q1 = (u * B + un1) / y') (er : r1 = (u * B + un1) % y') (e0 : q0 = (r1 * B + un0) / y') :
    q1 * B + q0 = (hi * (B * B) + lo) / y ∧ ((r1 * B + un0) % y') / 2 ^ s = (hi * (B * B) + lo) % y := by
  have d1 := Nat.div_add_mod (u * B + un1) y'
  rw [← e1, ← er] at d1
  have d0 := Nat.div_add_mod (r1 * B + un0) y'
  rw [← e0] at d0
  have l0 := Nat.mod_lt (r1 * B + un0) hpos
  generalize (r1 * B + un0) % y' = r0 at *
  have hs : 0 < 2 ^ s := Nat.two_pow_pos s
  have hv : (hi * (B * B) + lo) * 2 ^ s = y' * (q1 * B + q0) + r0 := by
    rw [h1, ← Nat.mul_assoc u, ← Nat.add_mul, ← d1, Nat.add_mul, Nat.add_assoc, ← d0, Nat.mul_add, ← Nat.mul_assoc, Nat.add_assoc]
  have hyp : 0 < y := by
    rcases Nat.eq_zero_or_pos y with h | h
    · rw [h, Nat.zero_mul] at hy; omega
    · exact h
  have hdiv : q1 * B + q0 = (hi * (B * B) + lo) / y := by
    have : (hi * (B * B) + lo) / y = ((hi * (B * B) + lo) * 2 ^ s) / (y * 2 ^ s) := (Nat.mul_div_mul_right _ _ hs).symm
    rw [this, hv, ← hy, Nat.mul_add_div hpos, Nat.div_eq_of_lt l0, Nat.add_zero]
  refine ⟨hdiv, ?_⟩
  have hmod : ((hi * (B * B) + lo) * 2 ^ s) % (y * 2 ^ s) = r0 := by
    rw [hv, ← hy, Nat.mul_add_mod, Nat.mod_eq_of_lt l0]
  rw [Nat.mul_mod_mul_right] at hmod
  rw [← hmod, Nat.mul_div_cancel _ hs]
end
end Go.Proofs.YtoekhpnapnhefaaGreatDoor

namespace Go.Proofs.YtoekhpnapnhefaaGreatDoor
set_option linter.unusedVariables false
set_option linter.unusedSimpArgs false

def Mem (a : Nat) : Prop := 1 ≤ a ∧ a < gP ∧ a ^ gQ % gP = 1

theorem one_lt_P : 1 < gP := by decide
theorem one_mod_P : 1 % gP = 1 := by decide
theorem Q_pos : 0 < gQ := by decide
theorem P_eq : gP = 2 * gQ + 1 := by decide

theorem Mem.one (a : Nat) (h : Mem a) : a ^ gQ % gP = 1 % gP := by rw [h.2.2, one_mod_P]
theorem pow_red {a : Nat} (h : a ^ gQ % gP = 1 % gP) (n : Nat) : a ^ n % gP = a ^ (n % gQ) % gP := by
  have e : a ^ n = a ^ (gQ * (n / gQ)) * a ^ (n % gQ) := by rw [← Nat.pow_add, Nat.div_add_mod]
  rw [e, Nat.mul_mod, pow_mod_one h, ← Nat.mul_mod, Nat.one_mul]
theorem pow_congr {a x y : Nat} (h : a ^ gQ % gP = 1 % gP) (e : x % gQ = y % gQ) : a ^ x % gP = a ^ y % gP := by
  rw [pow_red h x, pow_red h y, e]
/-- a member can be cancelled -/
theorem mem_cop {a : Nat} (h : a ^ gQ % gP = 1 % gP) : Nat.Coprime gP a := by
  refine primeP.cop fun hd => ?_
  have h0 : a ^ gQ % gP = 0 := Nat.mod_eq_zero_of_dvd (Nat.dvd_trans hd ⟨a ^ (gQ - 1), by rw [← Nat.pow_succ']; congr 1⟩)
  rw [h0, one_mod_P] at h
  exact absurd h (by decide)
theorem mem_cancel {c a b : Nat} (h : c ^ gQ % gP = 1 % gP) (e : c * a % gP = c * b % gP) : a % gP = b % gP := mod_cancel (mem_cop h) e
theorem one_pow_mem : (1 : Nat) ^ gQ % gP = 1 % gP := by rw [Nat.one_pow]
theorem mul_mem {a b : Nat} (h : a ^ gQ % gP = 1 % gP) (k : b ^ gQ % gP = 1 % gP) : (a * b) ^ gQ % gP = 1 % gP := by
  rw [Nat.mul_pow, Nat.mul_mod, h, k, ← Nat.mul_mod]
theorem pow_mem {a : Nat} (h : a ^ gQ % gP = 1 % gP) (n : Nat) : (a ^ n) ^ gQ % gP = 1 % gP := by
  rw [← Nat.pow_mul, Nat.mul_comm]; exact pow_mod_one h n
theorem mod_mem {a : Nat} (h : a ^ gQ % gP = 1 % gP) : (a % gP) ^ gQ % gP = 1 % gP := by rw [← Nat.pow_mod]; exact h
theorem mem_iff (a : Nat) : Mem a ↔ a < gP ∧ a ^ gQ % gP = 1 % gP := by
  constructor
  · intro h; exact ⟨h.2.1, h.one⟩
  · rintro ⟨h1, h2⟩
    refine ⟨?_, h1, by rw [h2, one_mod_P]⟩
    rcases Nat.eq_zero_or_pos a with h0 | h0
    · subst h0; rw [Nat.zero_pow Q_pos] at h2; exact absurd h2 (by decide)
    · exact h0
theorem Mem.pow {a : Nat} (h : Mem a) (n : Nat) : Mem (a ^ n % gP) := (mem_iff _).2 ⟨Nat.mod_lt _ (by decide), mod_mem (pow_mem h.one n)⟩
theorem Mem.mul {a b : Nat} (h : Mem a) (k : Mem b) : Mem (a * b % gP) := (mem_iff _).2 ⟨Nat.mod_lt _ (by decide), mod_mem (mul_mem h.one k.one)⟩
theorem Mem_one : Mem 1 := (mem_iff _).2 ⟨by decide, one_pow_mem⟩
theorem Mem_four : Mem 4 := (mem_iff _).2 ⟨by decide, by rw [← pw_eq gP 64 4 gQ (by decide +kernel)]; decide +kernel⟩

/-- the logarithm of a power of a member that is not 1 is determined modulo Q -/
theorem log_unique {a x y : Nat} (h : Mem a) (h1 : a ≠ 1) (e : a ^ x % gP = a ^ y % gP) : x % gQ = y % gQ := by
  have key : ∀ x y, x ≤ y → a ^ x % gP = a ^ y % gP → x % gQ = y % gQ := by
    intro x y hxy e
    have e1 : a ^ (y - x) % gP = 1 % gP := by
      have : a ^ y = a ^ x * a ^ (y - x) := by rw [← Nat.pow_add]; congr 1; omega
      rw [this] at e
      exact (mem_cancel (pow_mem h.one x) (a := 1) (by rw [Nat.mul_one]; exact e)).symm
    have hg := pow_gcd _ _ e1 h.one
    by_cases hd : gQ ∣ y - x
    · exact mod_eq_of_dvd hxy hd
    · have hc : Nat.gcd (y - x) gQ = 1 := Nat.Coprime.symm (primeQ.cop hd)
      rw [hc, Nat.pow_one, one_mod_P, Nat.mod_eq_of_lt h.2.1] at hg
      exact absurd hg h1
  rcases Nat.le_total x y with hxy | hxy
  · exact key x y hxy e
  · exact (key y x hxy e.symm).symm
/-- squares are members -/
theorem square_mem {x : Nat} (h : ¬ gP ∣ x) : Mem (x * x % gP) := by
  refine (mem_iff _).2 ⟨Nat.mod_lt _ (by decide), mod_mem ?_⟩
  have := fermat primeP h
  rw [← Nat.pow_two, ← Nat.pow_mul, show 2 * gQ = gP - 1 from rfl, this, one_mod_P]
/-- a member's negative is none -/
theorem neg_not_mem {a : Nat} (h : Mem a) : ¬ Mem (gP - a) := by
  intro k
  have hl := h.2.1
  have e : (gP - a) ^ gQ * a ^ gQ % gP = 1 % gP := by rw [Nat.mul_mod, k.one, h.one, ← Nat.mul_mod]
  have hs : ∀ n, ((gP - a) ^ (2 * n + 1) + a ^ (2 * n + 1)) % gP = 0 := by
    have s2 : (gP - a) ^ 2 % gP = a ^ 2 % gP := by
      have : (gP - a) * (gP - a) + gP * (2 * a) = a * a + gP * gP := by
        obtain ⟨b, hb⟩ : ∃ b, gP = a + b := ⟨gP - a, by omega⟩
        rw [hb, Nat.add_sub_cancel_left]
        simp only [Nat.add_mul, Nat.mul_add, Nat.two_mul]
        rw [Nat.mul_comm b a]; omega
      have e := congrArg (· % gP) this
      simp only [Nat.add_mul_mod_self_left] at e
      rw [Nat.pow_two, Nat.pow_two]; exact e
    intro n
    have e1 : (gP - a) ^ (2 * n) % gP = a ^ (2 * n) % gP := by rw [Nat.pow_mul, Nat.pow_mul, Nat.pow_mod, s2, ← Nat.pow_mod]
    rw [Nat.pow_succ, Nat.pow_succ, Nat.add_mod, Nat.mul_mod, e1, ← Nat.mul_mod, ← Nat.add_mod, ← Nat.mul_add, Nat.sub_add_cancel (by omega), Nat.mul_mod_left]
  have h2 := hs (gQ / 2)
  have hq : 2 * (gQ / 2) + 1 = gQ := by decide
  rw [hq, Nat.add_mod, k.one, h.one] at h2
  exact absurd h2 (by decide)
end Go.Proofs.YtoekhpnapnhefaaGreatDoor

namespace Go.Proofs.YtoekhpnapnhefaaGreatDoor
set_option linter.unusedVariables false
set_option linter.unusedSimpArgs false

/-- the side of a proof is the power of the base -/
theorem side_nat {G : Nat} (hg : G ^ gQ % gP = 1 % gP) (K X C : Nat) (hC : C ≤ gQ) :
    G ^ ((K + C * X % gQ) % gQ) % gP * ((G ^ X % gP) ^ (gQ - C) % gP) % gP = G ^ K % gP := by
  have h : ((K + C * X % gQ) % gQ + X * (gQ - C)) % gQ = K % gQ := by
    obtain ⟨D, hD⟩ : ∃ D, gQ = C + D := ⟨gQ - C, by omega⟩
    have e1 : gQ - C = D := by omega
    rw [e1]
    rw [Nat.add_mod, Nat.mod_mod, ← Nat.add_mod]
    rw [Nat.add_assoc, Nat.add_mod, ← Nat.add_mod K]
    have e2 : (C * X % gQ + X * D) % gQ = 0 := by
      rw [Nat.add_mod, Nat.mod_mod, ← Nat.add_mod]
      have : C * X + X * D = gQ * X := by rw [hD, Nat.add_mul, Nat.mul_comm X D]
      rw [this, Nat.mul_mod_right]
    rw [Nat.add_mod, e2, Nat.add_zero, Nat.mod_mod]
  rw [← Nat.pow_mod, ← Nat.mul_mod, ← Nat.pow_mul, ← Nat.pow_add]
  exact pow_congr hg h
/-- both equations: z = k + c x -/
theorem eqn_nat {G : Nat} (hg : G ^ gQ % gP = 1 % gP) (K X C : Nat) :
    G ^ ((K + C * X % gQ) % gQ) % gP = G ^ K % gP * ((G ^ X % gP) ^ C % gP) % gP := by
  have h : ((K + C * X % gQ) % gQ) % gQ = (K + X * C) % gQ := by rw [Nat.mod_mod, Nat.add_mod, Nat.mod_mod, ← Nat.add_mod, Nat.mul_comm]
  rw [pow_congr hg h, ← Nat.pow_mod, ← Nat.mul_mod, ← Nat.pow_mul, ← Nat.pow_add]
theorem add_cancel_mod {q K A B : Nat} (hq : 0 < q) (h : (K + A) % q = (K + B) % q) : A % q = B % q := by
  have e : ∀ A, K + A + (q - 1) * K = A + q * K := fun A => by
    obtain ⟨r, rfl⟩ : ∃ r, q = r + 1 := ⟨q - 1, by omega⟩
    rw [Nat.add_sub_cancel, Nat.add_mul, Nat.one_mul]; omega
  have h2 : (K + A + (q - 1) * K) % q = (K + B + (q - 1) * K) % q := by rw [Nat.add_mod, h, ← Nat.add_mod]
  rw [e, e, Nat.add_mul_mod_self_left, Nat.add_mul_mod_self_left] at h2
  exact h2
/-- an equation with another logarithm holds for no C but 0 -/
theorem eqn_only {H : Nat} (hh : Mem H) (h1 : H ≠ 1) (K I J C : Nat) (hI : I < gQ) (hJ : J < gQ) (hC : C < gQ) (hIJ : I ≠ J) :
    H ^ ((K + C * I % gQ) % gQ) % gP = H ^ K % gP * ((H ^ J % gP) ^ C % gP) % gP ↔ C = 0 := by
  constructor
  · intro e
    rw [← eqn_nat hh.one K J C] at e
    have e2 := log_unique hh h1 e
    rw [Nat.mod_mod, Nat.mod_mod, Nat.add_mod, Nat.mod_mod, ← Nat.add_mod] at e2
    rw [Nat.add_mod K (C * J % gQ), Nat.mod_mod, ← Nat.add_mod] at e2
    have e3 : (C * I) % gQ = (C * J) % gQ := add_cancel_mod (by decide) e2
    rcases Nat.eq_zero_or_pos C with h0 | h0
    · exact h0
    · exfalso
      have hnd : ¬ gQ ∣ C := fun hd => by have := Nat.le_of_dvd h0 hd; omega
      have := mod_cancel (IsPrime.cop primeQ hnd) e3
      rw [Nat.mod_eq_of_lt hI, Nat.mod_eq_of_lt hJ] at this
      exact hIJ this
  · rintro rfl
    rw [Nat.zero_mul, Nat.zero_mod, Nat.add_zero, Nat.pow_zero, ← Nat.mul_mod, Nat.mul_one]
    exact pow_congr hh.one (Nat.mod_mod _ _)
end Go.Proofs.YtoekhpnapnhefaaGreatDoor

namespace Go.Proofs.YtoekhpnapnhefaaGreatDoor
open Go
set_option linter.unusedVariables false
set_option linter.unusedSimpArgs false

/-- digits, none for 0 -/
def decR (m : Nat) : List UInt8 := if m = 0 then [] else Lib.decDigits m
theorem decR_step {m : Nat} (h : 0 < m) : decR m = decR (m / 10) ++ [UInt8.ofNat (48 + m % 10)] := by
  unfold decR
  rw [if_neg (by omega)]
  by_cases h1 : m < 10
  · rw [Lib.decDigits, dif_pos h1, if_pos (by omega), List.nil_append, Nat.mod_eq_of_lt h1]
  · rw [Lib.decDigits, dif_neg h1, if_neg (by omega)]
theorem decDigits_step {m : Nat} (h : 10 ≤ m) : Lib.decDigits m = Lib.decDigits (m / 10) ++ [UInt8.ofNat (48 + m % 10)] := by
  conv => lhs; rw [Lib.decDigits]
  rw [dif_neg (by omega)]
theorem decDigits_low {m : Nat} (h : m < 10) : Lib.decDigits m = [UInt8.ofNat (48 + m)] := by rw [Lib.decDigits, dif_pos h]
theorem dig_toNat {k : Nat} (h : k < 10) : (UInt8.ofNat (48 + k)).toNat = 48 + k := by rw [UInt8.toNat_ofNat']; omega
/-- induction along the digits -/
theorem dec_ind {P : Nat → List UInt8 → Prop} (h0 : ∀ m, m < 10 → P m [UInt8.ofNat (48 + m)]) (h1 : ∀ m, 10 ≤ m → P (m / 10) (Lib.decDigits (m / 10)) → P m (Lib.decDigits (m / 10) ++ [UInt8.ofNat (48 + m % 10)])) : ∀ m, P m (Lib.decDigits m) := by
  intro m
  induction m using Nat.strongRecOn with
  | _ m ih =>
    by_cases h : m < 10
    · rw [decDigits_low h]; exact h0 m h
    · rw [decDigits_step (by omega)]; exact h1 m (by omega) (ih (m / 10) (by omega))
def IsDig (c : UInt8) : Prop := 48 ≤ c.toNat ∧ c.toNat ≤ 57
instance (c : UInt8) : Decidable (IsDig c) := by unfold IsDig; infer_instance
theorem dec_digits (m : Nat) : ∀ c ∈ Lib.decDigits m, IsDig c := by
  refine dec_ind (P := fun _ l => ∀ c ∈ l, IsDig c) (fun m h c hc => ?_) (fun m h ih c hc => ?_) m
  · rw [List.mem_singleton] at hc; subst hc; unfold IsDig; rw [dig_toNat h]; omega
  · rcases List.mem_append.1 hc with h2 | h2
    · exact ih c h2
    · rw [List.mem_singleton] at h2; subst h2; unfold IsDig; rw [dig_toNat (by omega)]; omega
theorem dec_ne (m : Nat) : Lib.decDigits m ≠ [] := by
  refine dec_ind (P := fun _ l => l ≠ []) (fun m h => by simp) (fun m h ih => by simp) m
theorem dec_len : ∀ (k m : Nat), m < 10 ^ (k + 1) → (Lib.decDigits m).length ≤ k + 1
  | 0, m, h => by rw [decDigits_low (by simpa using h)]; exact Nat.le_refl _
  | k + 1, m, h => by
    by_cases h1 : m < 10
    · rw [decDigits_low h1]; simp
    · rw [decDigits_step (by omega), List.length_append]
      have := dec_len k (m / 10) (by rw [Nat.pow_succ] at h; omega)
      simp; omega
/-- the value of digits, from the first on -/
def valD (l : List UInt8) : Nat := l.foldl (fun n c => 10 * n + (c.toNat - 48)) 0
theorem valD_snoc (l : List UInt8) (c : UInt8) : valD (l ++ [c]) = 10 * valD l + (c.toNat - 48) := by simp [valD]
theorem valD_dec (m : Nat) : valD (Lib.decDigits m) = m := by
  refine dec_ind (P := fun m l => valD l = m) (fun m h => ?_) (fun m h ih => ?_) m
  · unfold valD; simp only [List.foldl_cons, List.foldl_nil]; rw [dig_toNat h]; omega
  · rw [valD_snoc, ih, dig_toNat (by omega)]; omega
theorem valD_take_le (l : List UInt8) (k : Nat) (h : k ≤ l.length) : valD (l.take k) ≤ valD l := by
  obtain ⟨d, hd⟩ : ∃ d, l.length = k + d := ⟨l.length - k, by omega⟩
  induction d generalizing l with
  | zero => rw [List.take_of_length_le (by omega)]; exact Nat.le_refl _
  | succ d ih =>
    have hne : l ≠ [] := by rintro rfl; rw [List.length_nil] at hd; omega
    have e := List.dropLast_concat_getLast hne
    rw [← e, valD_snoc, List.take_append_of_le_length (by simp; omega)]
    have := ih l.dropLast (by simp; omega) (by simp; omega)
    omega
theorem dec_inj {a b : Nat} (h : Lib.decDigits a = Lib.decDigits b) : a = b := by rw [← valD_dec a, h, valD_dec]
theorem dec_no_minus (m : Nat) : ∀ l, Lib.decDigits m ≠ 45 :: l := fun l h => by
  have := dec_digits m 45 (by rw [h]; simp)
  unfold IsDig at this; simp at this
theorem itoa_inj {a b : Int} (h : Lib.itoa a = Lib.itoa b) : a = b := by
  unfold Lib.itoa at h
  split at h <;> split at h
  · have := dec_inj (List.cons.inj h).2; omega
  · exact absurd h.symm (dec_no_minus _ _)
  · exact absurd h (dec_no_minus _ _)
  · have := dec_inj h; omega
theorem itoa_no_dot (n : Int) : ∀ c ∈ Lib.itoa n, c = 45 ∨ IsDig c := by
  intro c hc
  unfold Lib.itoa at hc
  split at hc
  · rcases List.mem_cons.1 hc with h | h
    · exact .inl h
    · exact .inr (dec_digits _ c h)
  · exact .inr (dec_digits _ c hc)
theorem not_dot {c : UInt8} (h : c = 45 ∨ IsDig c) : c ≠ 46 := by
  rintro rfl
  rcases h with h | h
  · exact absurd h (by decide)
  · unfold IsDig at h; simp at h
/-- a list splits at the first dot in one way -/
theorem split_dot : ∀ {a b c d : List UInt8}, (∀ x ∈ a, x ≠ 46) → (∀ x ∈ c, x ≠ 46) → a ++ 46 :: b = c ++ 46 :: d → a = c ∧ b = d
  | [], b, [], d, _, _, h => by simpa using h
  | [], b, y :: c, d, _, h2, h => by simp at h; exact absurd h.1.symm (h2 y (by simp))
  | x :: a, b, [], d, h1, _, h => by simp at h; exact absurd h.1 (h1 x (by simp))
  | x :: a, b, y :: c, d, h1, h2, h => by
    simp only [List.cons_append, List.cons.injEq] at h
    obtain ⟨e1, e2⟩ := split_dot (fun z hz => h1 z (by simp [hz])) (fun z hz => h2 z (by simp [hz])) h.2
    exact ⟨by rw [h.1, e1], e2⟩
theorem itoa_pos {n : Int} (h : 0 ≤ n) : Lib.itoa n = Lib.decDigits n.toNat := by unfold Lib.itoa; rw [if_neg (by omega)]
theorem itoa_min {n : Int} (h : n < 0) : Lib.itoa n = 45 :: Lib.decDigits n.natAbs := by unfold Lib.itoa; rw [if_pos h]
theorem dec_len19 {m : Nat} (h : m ≤ 9223372036854775808) : (Lib.decDigits m).length ≤ 19 :=
  dec_len 18 m (by
    have e : (10 : Nat) ^ (18 + 1) = 10000000000000000000 := by decide
    omega)
/-- a numeral that is not too great is short -/
theorem itoa_form {n : Int} (h1 : -9223372036854775808 ≤ n) (h2 : n ≤ 9223372036854775807) : ∃ (s : Bool) (ds : List UInt8), Lib.itoa n = (if s then [45] else []) ++ ds ∧ (∀ c ∈ ds, IsDig c) ∧ ds ≠ [] ∧ ds.length ≤ 19 ∧ (n = if s then -(valD ds : Int) else valD ds) ∧ (valD ds ≤ 9223372036854775808) ∧ (s = false → valD ds ≤ 9223372036854775807) := by
  by_cases h : n < 0
  · exact ⟨true, Lib.decDigits n.natAbs, by rw [itoa_min h]; rfl, dec_digits _, dec_ne _, dec_len19 (by omega), by rw [valD_dec, if_pos rfl]; omega, by rw [valD_dec]; omega, fun h => by cases h⟩
  · exact ⟨false, Lib.decDigits n.toNat, by rw [itoa_pos (by omega)]; rfl, dec_digits _, dec_ne _, dec_len19 (by omega), by rw [valD_dec, if_neg (by simp)]; omega, by rw [valD_dec]; omega, fun _ => by rw [valD_dec]; omega⟩
/-- digits, read -/
def foldV (acc : Nat) (l : List UInt8) : Nat := l.foldl (fun n c => 10 * n + (c.toNat - 48)) acc
theorem foldV_ge : ∀ (l : List UInt8) (acc : Nat), acc ≤ foldV acc l
  | [], acc => Nat.le_refl _
  | c :: l, acc => by have := foldV_ge l (10 * acc + (c.toNat - 48)); unfold foldV at this ⊢; rw [List.foldl_cons]; omega
theorem parseM_dig {M : Nat} (hM : M ≤ 18446744073709551615) : ∀ (l : List UInt8) (acc : Nat), (∀ c ∈ l, IsDig c) → foldV acc l ≤ M → Lib.parseUintM M acc l = .ok (foldV acc l)
  | [], acc, _, _ => rfl
  | c :: l, acc, h, h2 => by
    have hc := h c (by simp)
    unfold IsDig at hc
    have h3 : foldV (10 * acc + (c.toNat - 48)) l ≤ M := h2
    have h4 := foldV_ge l (10 * acc + (c.toNat - 48))
    have e : acc * 10 + (c.toNat - 48) = 10 * acc + (c.toNat - 48) := by omega
    rw [Lib.parseUintM, if_pos hc, if_neg (by omega), e, if_neg (by omega), parseM_dig hM l _ (fun x hx => h x (by simp [hx])) h3]
    rfl
theorem parse10_dig : ∀ (l : List UInt8) (acc : Nat), (∀ c ∈ l, IsDig c) → foldV acc l ≤ 18446744073709551615 → Lib.parseUint10 acc l = .ok (foldV acc l)
  | [], acc, _, _ => rfl
  | c :: l, acc, h, h2 => by
    have hc := h c (by simp)
    unfold IsDig at hc
    have h3 : foldV (10 * acc + (c.toNat - 48)) l ≤ 18446744073709551615 := h2
    have h4 := foldV_ge l (10 * acc + (c.toNat - 48))
    have e : acc * 10 + (c.toNat - 48) = 10 * acc + (c.toNat - 48) := by omega
    rw [Lib.parseUint10, if_pos hc, if_neg (by omega), e, if_neg (by omega), parse10_dig l _ (fun x hx => h x (by simp [hx])) h3]
    rfl
theorem dig_ne {c : UInt8} (h : IsDig c) : ¬ c.toNat = 43 ∧ ¬ c.toNat = 45 := by unfold IsDig at h; omega
/-- a numeral is read again -/
theorem parse_itoa {n : Int} (h1 : -9223372036854775808 ≤ n) (h2 : n ≤ 9223372036854775807) : Lib.parseIntB 64 (Lib.itoa n) = .ok n := by
  obtain ⟨s, ds, e, hd, hne, _, hn, hv, hv2⟩ := itoa_form h1 h2
  rw [e]
  have hp := parseM_dig (M := 2 ^ 64 - 1) (by decide) ds 0 hd (by show valD ds ≤ _; omega)
  have hp' : Lib.parseUintB 64 ds = .ok (valD ds) := by unfold Lib.parseUintB; rw [if_neg hne]; exact hp
  have e63 : (2 : Nat) ^ (64 - 1) = 9223372036854775808 := by decide
  cases s
  · have hv3 := hv2 rfl
    match ds, hne, hd, hp', hn, hv3 with
    | c :: r, _, hd, hp', hn, hv3 =>
      obtain ⟨k1, k2⟩ := dig_ne (hd c (by simp))
      simp only [Bool.false_eq_true, if_false, List.nil_append] at hn ⊢
      unfold Lib.parseIntB
      simp only [k1, e63, k2, or_self, not_false_eq_true, true_and, false_and, if_false]
      rw [hp']
      dsimp only
      rw [if_neg (by omega), hn]
  · simp only [if_true, List.cons_append, List.nil_append] at hn ⊢
    unfold Lib.parseIntB
    have k2 : (45 : UInt8).toNat = 45 := rfl
    simp only [or_true, e63, k2, not_true_eq_false, false_and, true_and, if_false, if_true]
    rw [hp']
    dsimp only
    rw [if_neg (by omega), hn]
theorem atoi_itoa {n : Int} (h1 : -9223372036854775808 ≤ n) (h2 : n ≤ 9223372036854775807) : Lib.atoiAll (Lib.itoa n) = .ok n := by
  obtain ⟨s, ds, e, hd, hne, _, hn, hv, hv2⟩ := itoa_form h1 h2
  rw [e]
  have hp := parse10_dig ds 0 hd (by show valD ds ≤ _; omega)
  have hp' : Lib.parseMag ds = .ok (valD ds) := by unfold Lib.parseMag; rw [if_neg hne]; exact hp
  cases s
  · have hv3 := hv2 rfl
    match ds, hne, hd, hp', hn, hv3 with
    | c :: r, _, hd, hp', hn, hv3 =>
      obtain ⟨k1, k2⟩ := dig_ne (hd c (by simp))
      simp only [Bool.false_eq_true, if_false, List.nil_append] at hn ⊢
      unfold Lib.atoiAll
      simp only [k1, k2, or_self, not_false_eq_true, true_and, false_and, if_false]
      rw [hp']
      dsimp only
      rw [if_neg (by omega), hn]
  · simp only [if_true, List.cons_append, List.nil_append] at hn ⊢
    unfold Lib.atoiAll
    have k2 : (45 : UInt8).toNat = 45 := rfl
    simp only [or_true, k2, not_true_eq_false, false_and, true_and, if_false, if_true]
    rw [hp']
    dsimp only
    rw [if_neg (by omega), hn]
end Go.Proofs.YtoekhpnapnhefaaGreatDoor
