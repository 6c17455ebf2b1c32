/-
  Slices that a call makes itself by append: what they hold, and where.
-/
import Derived.Test.YtjmdfipofgmakaaDoorProg
import Derived.Test.YtjmdfipofgmakaaDoorQt
namespace Go.Proofs.YtjmdfipofgmakaaDoor
open Go.RowKit
set_option linter.unusedVariables false
set_option linter.unusedSimpArgs false

/-- v is a slice of cells of one cell each, made since w0 (or nil); nothing that was there at w0 has changed -/
structure OB (t : TypeId) (w0 W : World) (v : Value) (xs : List Value) : Prop where
  own : Ow W t 1 v xs.length xs
  new : ∀ k, v.ownBlock = some k → w0.heap.size ≤ k
  only : Only (fun _ => False) w0 W
section
variable {t : TypeId} {w0 w W W' : World} {v : Value} {xs : List Value} {S : Nat → Prop}
theorem OB.nil (t : TypeId) (w0 W : World) (o : Only (fun _ => False) w0 W) : OB t w0 W (.slice none 0 0) [] := ⟨Ow.nil _ _ _, fun k h => by simp [Value.ownBlock] at h, o⟩
theorem OB.keep (h : OB t w0 W v xs) (o : Only (fun _ => False) W W') : OB t w0 W' v xs := ⟨h.own.only o (fun _ _ h => h), h.new, h.only.trans o (fun _ _ h => h)⟩
theorem OB.far (h : OB t w0 W v xs) (o : Only S W W') (hS : ∀ k, S k → w0.heap.size ≤ k ∧ v.ownBlock ≠ some k) : OB t w0 W' v xs :=
  ⟨h.own.only o (fun k hk hs => (hS k hs).2 hk), h.new, h.only.trans (o.mono (T := fun k => w0.heap.size ≤ k) (fun k _ hs => (hS k hs).1)) (fun k hk h1 => by omega)⟩
theorem OB.alloc (h : OB t w0 W v xs) (o : Obj) : OB t w0 (W.alloc o) v xs := h.keep ((Only.refl _ W).alloc o)
theorem OB.drew (h : OB t w0 W v xs) : OB t w0 W.drew v xs := h.keep (Only.refl _ W).drew
theorem OB.shape (h : OB t w0 W v xs) : ∃ A c, v = .slice A xs.length c := h.own.shape
theorem OB.at_ (h : OB t w0 W v xs) (hn : 0 < xs.length) : ∃ g cap sp, v = .slice (some ⟨g, 0, none⟩) xs.length cap ∧ At W g t (xs ++ sp) ∧ xs.length ≤ cap ∧ cap ≤ maxLen ∧ w0.heap.size ≤ g := by
  obtain ⟨g, cap, sp, h1, h2, h3, h4, h5⟩ := h.own.at_ hn
  exact ⟨g, cap, sp, h1, h2, h3, h4, h.new g (by rw [h1]; rfl)⟩
/-- made by a literal -/
theorem OB.lit (w : World) (t : TypeId) (xs : List Value) (hm : xs.length ≤ maxLen) : OB t w (w.alloc (.cells xs.toArray t)) (.slice (some ⟨w.heap.size, 0, none⟩) xs.length xs.length) xs :=
  ⟨Ow.mk (sp := []) (by rw [List.append_nil]; exact At.new w t xs) (by rw [Nat.mul_one]) (Nat.le_refl _) hm (by rw [List.append_nil, Nat.mul_one]), fun k h => by simp [Value.ownBlock] at h; omega, (Only.refl _ w).alloc _⟩
end
section
variable {P : Program} {t : TypeId} {w0 w : World} {ops : Array Oper} {rest : List Oper} {o : Oper} {a : Act} {Q : Exit → Act → World → Prop}
/-- append in a plain region -/
theorem wpl_app_ob (hgd : o.guard = none) (s x : Operand) (T : TypeId) (ho : o.op = .call { callee := .builtin .append, args := #[s, x], argTypes := #[T, T] }) (z : Value) (bytes : Nat) (hT : P.underlying T = some (.slice t))
    (hinfo : (P.info? t).map (fun i => (i.zero, i.size, i.bytes)) = some (some z, 1, bytes)) (hzs : z.cells.size = 1) (v : Value) (xs : List Value) (hs : a.eval s = v) (hob : OB t w0 w v xs)
    (ad : Addr) (m c : Nat) (news : List Value) (hx : a.eval x = .slice (some ad) m c) (hl : news.length = m) (hnews : ∀ j u, news[j]? = some u → w.cell? (ad.add j) = some u) (h1 : ∀ u ∈ news, u.oneCell' = true) (h47 : (xs.length + m) * bytes ≤ 140737488355328) (h63 : xs.length + m ≤ 9223372036854775807)
    (h : ∀ A cap w' n, n = xs.length + m → OB t w0 w' (.slice A n cap) (xs ++ news) → Only (fun k => v.ownBlock = some k) w w' → ((Value.slice A n cap).ownBlock = v.ownBlock ∨ (Value.slice A n cap).ownBlock = some w.heap.size) → wpList P ops Q rest (a.put o.dst (.slice A n cap)) w') :
    wpList P ops Q (o :: rest) a w := by
  obtain ⟨i, hi, hz, hsz, hby⟩ := info_parts hinfo
  refine wpl_app hgd s x T ho t i z 1 bytes hT hi hz hsz hby hzs (by decide) v xs.length xs hs hob.own ad m c news hx (by rw [hl, Nat.mul_one]) hnews h1 (by unfold maxLen; omega) h47 ?_
  intro v' w' h2 h3 h4 _
  obtain ⟨A, cap, rfl⟩ := h2.shape
  have ho : Only (fun k => v.ownBlock = some k) w w' := (Only.refl _ w).grown h3 (fun k hk _ => hk)
  refine h A cap w' _ rfl ⟨by rw [List.length_append, hl]; exact h2, fun k hk => ?_, ?_⟩ ho h4
  · rcases h4 with h5 | h5
    · exact hob.new k (by rw [← h5]; exact hk)
    · rw [h5] at hk
      have := hob.only.size
      injection hk with hk; omega
  · exact hob.only.trans (ho.mono (T := fun k => w0.heap.size ≤ k) (fun k _ hk => hob.new k hk)) (fun k hk h1 => by omega)
end
theorem infoByte : (Tryd.prog.info? 5).map (fun i => (i.zero, i.size, i.bytes)) = some (some (.int .u8 0), 1, 1) := by kernel_rfl
theorem infoInt : (Tryd.prog.info? 3).map (fun i => (i.zero, i.size, i.bytes)) = some (some (.int .i64 0), 1, 8) := by kernel_rfl
theorem one_cell {w : World} {t : TypeId} (v : Value) : ∀ j u, [v][j]? = some u → (w.alloc (.cells #[v] t)).cell? ((⟨w.heap.size, 0, none⟩ : Addr).add j) = some u := fun j u hj => At.news' (At.new w t [v]) j u hj
end Go.Proofs.YtjmdfipofgmakaaDoor
