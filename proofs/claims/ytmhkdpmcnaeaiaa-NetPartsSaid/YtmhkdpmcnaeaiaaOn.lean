/-
  NetOwn, plain, and an append whose source may be nil.
-/
import Derived.Test.YtmhkdpmcnaeaiaaDr
import Derived.Laws.OwnMore
namespace Go.Proofs.Ytmhkdpmcnaeaiaa
open Go.RowKit
set_option linter.unusedVariables false

theorem grownBy_refl (w : World) (row : Option Nat) : w.grownBy w row := ⟨rfl, rfl, rfl, Nat.le_refl _, fun _ _ _ => rfl⟩

/-- append of one owned slice to another, in a plain region -/
theorem wpl_app_ow {P : Program} {w : World} {ops : Array Oper} {rest : List Oper} {o : Oper} {a : Act} {Q : Exit → Act → World → Prop} (hgd : o.guard = none) (s x : Operand) (t : TypeId)
    (ho : o.op = .call { callee := .builtin .append, args := #[s, x], argTypes := #[t, t] })
    (e : TypeId) (i : TypeInfo) (z : Value) (size bytes : Nat) (ht : P.underlying t = some (.slice e)) (hi : P.info? e = some i) (hz : i.zero = some z)
    (hsize : i.size = size) (hby : i.bytes = bytes) (hzs : z.cells.size = size) (hsz : 0 < size)
    (v : Value) (n : Nat) (xs : List Value) (hs : a.eval s = v) (hown : Ow w e size v n xs)
    (v2 : Value) (m : Nat) (news : List Value) (hx : a.eval x = v2) (hox : Ow w e size v2 m news) (h1 : ∀ u ∈ news, u.oneCell' = true)
    (h63 : n + m ≤ maxLen) (hbytes : (n + m) * bytes ≤ 140737488355328)
    (h : ∀ v' w', Ow w' e size v' (n + m) (xs ++ news) → w.grownBy w' v.ownBlock → (v'.ownBlock = v.ownBlock ∨ v'.ownBlock = some w.heap.size) → wpList P ops Q rest (a.put o.dst v') w') :
    wpList P ops Q (o :: rest) a w := by
  rcases hox.form with ⟨rfl, rfl, rfl⟩ | ⟨g, cap, sp, rfl, h2, h3, h4, h5⟩
  · refine wpList_plain hgd fun _ hK => ?_
    have hr := run_append_owned_none (P := P) (w := w) 0 t o.type e i size ht hi v n xs hown
    unfold Oper.wp execOp
    simp only [ho, resolve, invoke, builtin, Sem.run_bind, Sem.run_pure, Result.andThen_ok, List.map_toArray, List.map_cons, List.map_nil, hs, hx, hr]
    exact hK _ _ (h v w (by simpa using hown) (grownBy_refl _ _) (.inl rfl))
  · exact wpl_app hgd s x t ho e i z size bytes ht hi hz hsize hby hzs hsz v n xs hs hown ⟨g, 0, none⟩ m cap news hx hox.len (At.news h2) h1 h63 hbytes (fun v' w' a b c _ => h v' w' a b c)

theorem Two.only {B n1 n2 : Nat} {s1 s2 : Nst} {w w' : World} {S : Nat → Prop} (h : Two B w n1 s1 n2 s2) (ho : Only S w w') (hS : ∀ i, S i → i < B) : Two B w' n1 s1 n2 s2 := by
  obtain ⟨F1, F2, h1, h2, h3, h4, h5⟩ := h
  exact ⟨F1, F2, h1.only ho (fun k hk hs => by have := h3 k hk; have := hS k hs; omega), h2.only ho (fun k hk hs => by have := h4 k hk; have := hS k hs; omega), h3, h4, h5⟩

theorem two_size {B n1 n2 : Nat} {s1 s2 : Nst} {w : World} (h : Two B w n1 s1 n2 s2) : B ≤ w.heap.size := by
  obtain ⟨F1, F2, h1, h2, h3, h4, h5⟩ := h
  obtain ⟨sv, wv, gv, l, h, rfl⟩ := h1
  have := h3 n1 (.inl rfl)
  have := h.fields.lt
  omega

theorem cells_one (l : List Tr) : ∀ u ∈ l.flatMap Tr.cells, u.oneCell' = true := by
  intro u hu
  simp only [List.mem_flatMap, Tr.cells, List.mem_cons, List.not_mem_nil, or_false] at hu
  obtain ⟨t, _, rfl | rfl | rfl⟩ := hu <;> rfl
theorem cells_len (l : List Tr) : (l.flatMap Tr.cells).length = l.length * 3 := by
  induction l with
  | nil => rfl
  | cons a l ih => rw [List.flatMap_cons, List.length_append, ih]; simp [Tr.cells]; omega

/-- a block in which a script lies, whatever its troubles are -/
structure Bl (w : World) (g n : Nat) : Prop where
  ex : ∃ cs, At w g 44 cs ∧ n * 3 ≤ cs.length ∧ ∀ i, i < n → ∃ b : Bool, cs[i * 3]? = some (.bool b)
theorem Bl.put {w : World} {g n j : Nat} (h : Bl w g n) (b : Bool) (u1 u2 : Value) (hj : j < n) : Bl (((w.setCell ⟨g, j * 3, none⟩ (.bool b)).setCell ⟨g, j * 3 + 1, none⟩ u1).setCell ⟨g, j * 3 + 2, none⟩ u2) g n := by
  obtain ⟨cs, ha, hl, hb⟩ := h.ex
  refine ⟨_, ((ha.put _ _).put _ _).put _ _, by simpa using hl, fun i hi => ?_⟩
  rw [List.getElem?_set_ne (by omega), List.getElem?_set_ne (by omega)]
  by_cases e : i = j
  · subst e
    exact ⟨b, by rw [List.getElem?_set_self (by omega)]⟩
  · rw [List.getElem?_set_ne (by omega)]
    exact hb i hi
theorem only_put3 (w : World) (g a b c : Nat) (x y z : Value) : Only (· = g) w (((w.setCell ⟨g, a, none⟩ x).setCell ⟨g, b, none⟩ y).setCell ⟨g, c, none⟩ z) :=
  (((Only.refl (· = g) w).put (p := ⟨g, a, none⟩) (fun _ => rfl) _).put (p := ⟨g, b, none⟩) (fun _ => rfl) _).put (p := ⟨g, c, none⟩) (fun _ => rfl) _

section
variable (sc : List Tr)
def oS : Nat → Nst
  | 0 => ⟨1, sc, [], 0, fun _ => 0⟩
  | j + 1 => (oS j).send j j 0 ⟨#[]⟩
theorem oS_same (j : Nat) : (oS sc j).nd = 1 ∧ (oS sc j).sc = sc ∧ (oS sc j).sn = j ∧ (oS sc j).gr = fun _ => 0 := by
  induction j with
  | zero => exact ⟨rfl, rfl, rfl, rfl⟩
  | succ j ih =>
    obtain ⟨a, b, c, d⟩ := send_same (oS sc j) j j 0 ⟨#[]⟩
    exact ⟨a.trans ih.1, b.trans ih.2.1, by rw [oS, c, ih.2.2.1], d.trans ih.2.2.2⟩
theorem oS_le (j : Nat) : (oS sc j).ws.length ≤ 8 * j := by
  induction j with
  | zero => simp [oS]
  | succ j ih =>
    have := send_ws_le (oS sc j) j j 0 ⟨#[]⟩
    rw [oS]
    omega
/-- what is true of each copy -/
def OwOk (W : List Pc) : Prop := ∀ q ∈ W, q.fr = q.sn ∧ q.ds = 0 ∧ q.tx = ⟨#[]⟩
theorem oS_ok (j : Nat) : OwOk (oS sc j).ws := by
  induction j with
  | zero => intro q hq; simp [oS] at hq
  | succ j ih =>
    intro q hq
    rw [oS, send_ws] at hq
    split at hq
    · exact ih q hq
    · rcases List.mem_append.1 hq with h | h
      · exact ih q h
      · simp only [Nst.parcels, List.mem_map, List.mem_range] at h
        obtain ⟨k, hk, rfl⟩ := h
        exact ⟨(oS_same sc j).2.2.1.symm ▸ rfl, rfl, rfl⟩
end
theorem ow_eq {W : List Pc} {p p' : Pc} (h : OwOk W) (hp : p ∈ W) (hp' : p' ∈ W) (hm : ∀ q ∈ W, lt q p = false) (hm' : ∀ q ∈ W, lt q p' = false) : p' = p := by
  have a := hm p' hp'
  have b := hm' p hp
  rw [lt_false] at a b
  have x := h p hp
  have y := h p' hp'
  obtain ⟨f, d, t, m, s⟩ := p
  obtain ⟨f', d', t', m', s'⟩ := p'
  dsimp only at *
  obtain ⟨rfl, rfl, rfl⟩ := x
  obtain ⟨rfl, rfl, rfl⟩ := y
  obtain rfl : m = m' := by omega
  obtain rfl : f = f' := by omega
  rfl

end Go.Proofs.Ytmhkdpmcnaeaiaa
