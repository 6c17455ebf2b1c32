/-
  The methods of package net's list of waiting copies: Len, Less, Swap, Push, Pop, each by its contract.
-/
import Derived.Test.YtmhkdpmcnaeaiaaRows
import Derived.Test.YtmhkdpmcnaeaiaaPl
import Derived.Test.YtmhkdpmcnaeaiaaMem
namespace Go.Proofs.Ytmhkdpmcnaeaiaa
open Go.RowKit
set_option linter.unusedVariables false

def Pc.cells (p : Pc) : List Value := [.int .i64 p.fr, .int .i64 p.ds, .string p.tx, .int .i64 p.tm, .int .i64 p.sn]
theorem Pc.cells_length (p : Pc) : p.cells.length = 5 := rfl
def fl (l : List Pc) (sp : List Value) : List Value := l.flatMap Pc.cells ++ sp

section
variable {w : World} {g : Nat} {l : List Pc} {sp : List Value}
theorem fl_at (h : At w g 75 (fl l sp)) {i : Nat} (hi : i < l.length) :
    w.cell? ⟨g, i * 5, none⟩ = some (.int .i64 (el l i).fr) ∧ w.cell? ⟨g, i * 5 + 1, none⟩ = some (.int .i64 (el l i).ds) ∧ w.cell? ⟨g, i * 5 + 2, none⟩ = some (.string (el l i).tx) ∧
    w.cell? ⟨g, i * 5 + 3, none⟩ = some (.int .i64 (el l i).tm) ∧ w.cell? ⟨g, i * 5 + 4, none⟩ = some (.int .i64 (el l i).sn) := by
  have e := fun j (hj : j < 5) => flat_get Pc.cells 5 Pc.cells_length sp l i j hi hj
  rw [el_eq hi]
  exact ⟨h.cell (e 0 (by omega)), h.cell (e 1 (by omega)), h.cell (e 2 (by omega)), h.cell (e 3 (by omega)), h.cell (e 4 (by omega))⟩
theorem fl_put (x : Pc) (sp : List Value) : ∀ (l : List Pc) (i : Nat), i < l.length →
    ((((((fl l sp).set (i * 5) (.int .i64 x.fr)).set (i * 5 + 1) (.int .i64 x.ds)).set (i * 5 + 2) (.string x.tx)).set (i * 5 + 3) (.int .i64 x.tm)).set (i * 5 + 4) (.int .i64 x.sn)) = fl (l.set i x) sp
  | [], i, h => by simp at h
  | y :: l, 0, _ => by simp [fl, Pc.cells]
  | y :: l, i + 1, h => by
    have e : ∀ z, fl (y :: z) sp = .int .i64 y.fr :: .int .i64 y.ds :: .string y.tx :: .int .i64 y.tm :: .int .i64 y.sn :: fl z sp := fun z => by simp [fl, Pc.cells]
    have ih := fl_put x sp l i (by simpa using h)
    have e5 : (i + 1) * 5 = i * 5 + 5 := by omega
    rw [List.set_cons_succ, e, e, e5, ← ih]
    rfl
end

theorem m_less0 (a : Addr) (w : World) : (method 205 84 (.pointer (some a)) "Less").run Try.prog w = ((loadVar 53 a).bind fun v => .pure (49, v)).run Try.prog w := by kernel_rfl
theorem m_len0 (a : Addr) (w : World) : (method 205 84 (.pointer (some a)) "Len").run Try.prog w = ((loadVar 53 a).bind fun v => .pure (48, v)).run Try.prog w := by kernel_rfl
theorem m_swap0 (a : Addr) (w : World) : (method 205 84 (.pointer (some a)) "Swap").run Try.prog w = ((loadVar 53 a).bind fun v => .pure (50, v)).run Try.prog w := by kernel_rfl
theorem m_pop (a : Addr) (w : World) : (method 205 84 (.pointer (some a)) "Pop").run Try.prog w = .ok (51, .pointer (some a)) w := by kernel_rfl
theorem m_push (a : Addr) (w : World) : (method 205 84 (.pointer (some a)) "Push").run Try.prog w = .ok (52, .pointer (some a)) w := by kernel_rfl
theorem ld53 {a : Addr} {w : World} {A : Option Addr} {n c : Nat} (h : w.cell? a = some (.slice A n c)) : (loadVar 53 a).run Try.prog w = .ok (.slice A n c) w := by go_simp
theorem m_less {a : Addr} {w : World} {A : Option Addr} {n c : Nat} (h : w.cell? a = some (.slice A n c)) : (method 205 84 (.pointer (some a)) "Less").run Try.prog w = .ok (49, .slice A n c) w := by
  rw [m_less0, Sem.run_bind' Try.prog, ld53 h]; rfl
theorem m_len {a : Addr} {w : World} {A : Option Addr} {n c : Nat} (h : w.cell? a = some (.slice A n c)) : (method 205 84 (.pointer (some a)) "Len").run Try.prog w = .ok (48, .slice A n c) w := by
  rw [m_len0, Sem.run_bind' Try.prog, ld53 h]; rfl
theorem m_swap {a : Addr} {w : World} {A : Option Addr} {n c : Nat} (h : w.cell? a = some (.slice A n c)) : (method 205 84 (.pointer (some a)) "Swap").run Try.prog w = .ok (50, .slice A n c) w := by
  rw [m_swap0, Sem.run_bind' Try.prog, ld53 h]; rfl

theorem ret_bool {a b : Bool} (h : a = b) : Ending.returned (.bool a) = .returned (.bool b) := by rw [h]

set_option maxHeartbeats 400000 in
theorem len_any (A : Option Addr) (n c : Nat) (w : World) :
    Calls Try.prog 48 #[.slice A n c] w fun e w' => e = .returned (.int .i64 n) ∧ w = w' := by
  go_enter Try.func48, Try.ntmps48
  go_wp2
  go_ret
  exact ⟨rfl, rfl⟩

set_option maxHeartbeats 400000 in
theorem less_any (g n c i j : Nat) (l : List Pc) (sp : List Value) (w : World) (hi : i < l.length) (hj : j < l.length) (hn : l.length ≤ n) (hm : n ≤ 9223372036854775807) (h : At w g 75 (fl l sp)) :
    Calls Try.prog 49 #[.slice (some ⟨g, 0, none⟩) n c, .int .i64 i, .int .i64 j] w fun e w' => e = .returned (.bool (lt (el l i) (el l j))) ∧ ∃ k, w' = w.drewN k := by
  have h1 : (i : Int) < (n : Int) := by omega
  have h2 : (j : Int) < (n : Int) := by omega
  obtain ⟨_, _, _, i3, i4⟩ := fl_at h hi
  obtain ⟨_, _, _, j3, j4⟩ := fl_at h hj
  have e : lt (el l i) (el l j) = (decide ((el l i).tm < (el l j).tm) || (decide ((el l i).tm = (el l j).tm) && decide ((el l i).sn < (el l j).sn))) := rfl
  rw [e]
  generalize el l i = p at *
  generalize el l j = q at *
  obtain ⟨_, _, _, ai, si⟩ := p
  obtain ⟨_, _, _, aj, sj⟩ := q
  clear h e hi hj
  dsimp only at *
  by_cases h : ai = aj
  · subst h
    go_enter Try.func49, Try.ntmps49
    go_wp2
    go_quiet (fail)
    go_wp2
    go_quiet (fail)
    go_wp2
    go_ret
    exact ⟨ret_bool (by simp), _, World.drewN_drewN _ _ _⟩
  · have hb : (ai != aj) = true := by simpa using h
    go_enter Try.func49, Try.ntmps49
    go_wp2
    go_quiet (fail)
    go_wp2
    go_quiet (fail)
    go_wp2
    go_ret
    exact ⟨ret_bool (by simp [h]), _, World.drewN_drewN _ _ _⟩

set_option maxHeartbeats 1000000 in
theorem swap_ne (g n c i j : Nat) (l : List Pc) (sp : List Value) (w : World) (hi : i < l.length) (hj : j < l.length) (hn : l.length ≤ n) (hm : n ≤ 9223372036854775807) (hne : ¬ i = j) (h : At w g 75 (fl l sp)) :
    Calls Try.prog 50 #[.slice (some ⟨g, 0, none⟩) n c, .int .i64 i, .int .i64 j] w fun e w' => e = .returned (.tuple #[]) ∧ At w' g 75 (fl (swp l i j) sp) ∧ Only (· = g) w w' := by
  have l1 : (i : Int) < (n : Int) := by omega
  have l2 : (j : Int) < (n : Int) := by omega
  have e1 : ¬ i * 5 = j * 5 := by omega
  obtain ⟨i0, i1, i2, i3, i4⟩ := fl_at h hi
  obtain ⟨j0, j1, j2, j3, j4⟩ := fl_at h hj
  have fz := h.frozen
  have K : At ((((((((((w.setCell ⟨g, i * 5, none⟩ (.int .i64 (el l j).fr)).setCell ⟨g, i * 5 + 1, none⟩ (.int .i64 (el l j).ds)).setCell ⟨g, i * 5 + 2, none⟩ (.string (el l j).tx)).setCell ⟨g, i * 5 + 3, none⟩ (.int .i64 (el l j).tm)).setCell ⟨g, i * 5 + 4, none⟩ (.int .i64 (el l j).sn)).setCell
      ⟨g, j * 5, none⟩ (.int .i64 (el l i).fr)).setCell ⟨g, j * 5 + 1, none⟩ (.int .i64 (el l i).ds)).setCell ⟨g, j * 5 + 2, none⟩ (.string (el l i).tx)).setCell ⟨g, j * 5 + 3, none⟩ (.int .i64 (el l i).tm)).setCell ⟨g, j * 5 + 4, none⟩ (.int .i64 (el l i).sn)) g 75 (fl (swp l i j) sp) := by
    have := (((((((((h.put (i * 5) (.int .i64 (el l j).fr)).put (i * 5 + 1) (.int .i64 (el l j).ds)).put (i * 5 + 2) (.string (el l j).tx)).put (i * 5 + 3) (.int .i64 (el l j).tm)).put (i * 5 + 4) (.int .i64 (el l j).sn)).put
      (j * 5) (.int .i64 (el l i).fr)).put (j * 5 + 1) (.int .i64 (el l i).ds)).put (j * 5 + 2) (.string (el l i).tx)).put (j * 5 + 3) (.int .i64 (el l i).tm)).put (j * 5 + 4) (.int .i64 (el l i).sn)
    rw [fl_put _ _ _ _ hi, fl_put _ _ _ _ (by simpa using hj)] at this
    exact this
  clear h
  generalize el l i = p at *
  generalize el l j = q at *
  obtain ⟨p0, p1, p2, p3, p4⟩ := p
  obtain ⟨q0, q1, q2, q3, q4⟩ := q
  dsimp only at *
  have H := Lib.hid K
  clear K
  go_enter Try.func50, Try.ntmps50
  go_wp2
  go_region
  go_end0
  exact ⟨rfl, H.out.drew, by repeat (first | with_reducible exact Only.refl _ _ | with_reducible apply Only.drew | (with_reducible refine Only.put ?_ (fun _ => ?_) _; rotate_right; exact rfl))⟩


set_option maxHeartbeats 1000000 in
theorem swap_same (g n c i : Nat) (l : List Pc) (sp : List Value) (w : World) (hi : i < l.length) (hn : l.length ≤ n) (hm : n ≤ 9223372036854775807) (h : At w g 75 (fl l sp)) :
    Calls Try.prog 50 #[.slice (some ⟨g, 0, none⟩) n c, .int .i64 i, .int .i64 i] w fun e w' => e = .returned (.tuple #[]) ∧ At w' g 75 (fl (swp l i i) sp) ∧ Only (· = g) w w' := by
  have l1 : (i : Int) < (n : Int) := by omega
  obtain ⟨i0, i1, i2, i3, i4⟩ := fl_at h hi
  have fz := h.frozen
  have K : At ((((((((((w.setCell ⟨g, i * 5, none⟩ (.int .i64 (el l i).fr)).setCell ⟨g, i * 5 + 1, none⟩ (.int .i64 (el l i).ds)).setCell ⟨g, i * 5 + 2, none⟩ (.string (el l i).tx)).setCell ⟨g, i * 5 + 3, none⟩ (.int .i64 (el l i).tm)).setCell ⟨g, i * 5 + 4, none⟩ (.int .i64 (el l i).sn)).setCell
      ⟨g, i * 5, none⟩ (.int .i64 (el l i).fr)).setCell ⟨g, i * 5 + 1, none⟩ (.int .i64 (el l i).ds)).setCell ⟨g, i * 5 + 2, none⟩ (.string (el l i).tx)).setCell ⟨g, i * 5 + 3, none⟩ (.int .i64 (el l i).tm)).setCell ⟨g, i * 5 + 4, none⟩ (.int .i64 (el l i).sn)) g 75 (fl (swp l i i) sp) := by
    have := (((((((((h.put (i * 5) (.int .i64 (el l i).fr)).put (i * 5 + 1) (.int .i64 (el l i).ds)).put (i * 5 + 2) (.string (el l i).tx)).put (i * 5 + 3) (.int .i64 (el l i).tm)).put (i * 5 + 4) (.int .i64 (el l i).sn)).put
      (i * 5) (.int .i64 (el l i).fr)).put (i * 5 + 1) (.int .i64 (el l i).ds)).put (i * 5 + 2) (.string (el l i).tx)).put (i * 5 + 3) (.int .i64 (el l i).tm)).put (i * 5 + 4) (.int .i64 (el l i).sn)
    rw [fl_put _ _ _ _ hi, fl_put _ _ _ _ (by simpa using hi)] at this
    exact this
  clear h
  generalize el l i = p at *
  obtain ⟨p0, p1, p2, p3, p4⟩ := p
  dsimp only at *
  have H := Lib.hid K
  clear K
  go_enter Try.func50, Try.ntmps50
  go_wp2
  go_region
  go_end0
  exact ⟨rfl, H.out.drew, by repeat (first | with_reducible exact Only.refl _ _ | with_reducible apply Only.drew | (with_reducible refine Only.put ?_ (fun _ => ?_) _; rotate_right; exact rfl))⟩

theorem swap_all (g n c i j : Nat) (l : List Pc) (sp : List Value) (w : World) (hi : i < l.length) (hj : j < l.length) (hn : l.length ≤ n) (hm : n ≤ 9223372036854775807) (h : At w g 75 (fl l sp)) :
    Calls Try.prog 50 #[.slice (some ⟨g, 0, none⟩) n c, .int .i64 i, .int .i64 j] w fun e w' => e = .returned (.tuple #[]) ∧ At w' g 75 (fl (swp l i j) sp) ∧ Only (· = g) w w' := by
  by_cases e : i = j
  · subst e; exact swap_same g n c i l sp w hi hn hm h
  · exact swap_ne g n c i j l sp w hi hj hn hm e h

end Go.Proofs.Ytmhkdpmcnaeaiaa
