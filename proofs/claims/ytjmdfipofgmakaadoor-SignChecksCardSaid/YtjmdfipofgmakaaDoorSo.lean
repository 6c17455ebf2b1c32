/-
  SHA-256: Sum: contract.
-/
import Derived.Lib.AppendZeros
import Derived.Test.YtjmdfipofgmakaaDoorSn
namespace Go.Proofs.YtjmdfipofgmakaaDoor
open Go.RowKit Go.Shelf
set_option linter.unusedVariables false
set_option linter.unusedSimpArgs false
attribute [local go_sem] Oper.semAt_some

def STOP (p : Prop) : Prop := p
theorem go_stop {p : Prop} (h : STOP p) : p := h
section
variable {ops : Array Oper} {rest : List Oper} {o : Oper} {a : Act} {w : World} {Q : Exit → Act → World → Prop} {g cap : Nat} {l : List UInt8}
theorem wpl_app_bytes (hgd : o.guard = none) (x y : Operand) (ho : o.op = .call { callee := .builtin .append, args := #[x, y], argTypes := #[69, 69] }) (n : Nat) (gb ob : Nat) (m c : Nat) (hx : a.eval x = .slice (some ⟨g, 0, none⟩) n cap) (hy : a.eval y = .slice (some ⟨gb, ob, none⟩) m c)
    (hr : BRow w g cap l) (hn : l.length = n) (news : List UInt8) (hm : news.length = m) (hc : BytesAt w gb ob news) (h47 : n + m ≤ 140737488355328)
    (h : ∀ g' cap' w' n', BRow w' g' cap' (l ++ news) → (l ++ news).length = n' → n' = n + m → Only (· = g) w w' → (g' = g ∨ g' = w.heap.size) → wpList Tryd.prog ops Q rest (a.put o.dst (.slice (some ⟨g', 0, none⟩) n' cap')) w') : wpList Tryd.prog ops Q (o :: rest) a w := by
  subst hn
  obtain ⟨g', cap', w', he, h1, h2, h3⟩ := app_bytes o.type hr ⟨gb, ob, none⟩ m c news hm (fun j u hj => by rw [Addr.add_lit]; exact hc j u hj) h47
  exact Lib.wpList_append_run w hgd x y _ _ ho _ _ hx hy _ _ he (h g' cap' w' _ h1 (by rw [List.length_append, hm]) rfl h2 h3)
theorem wpl_app_zeros (hgd : o.guard = none) (x y : Operand) (ho : o.op = .call { callee := .builtin .append, args := #[x, y], argTypes := #[69, 3] }) (n : Nat) (k : Nat) (hx : a.eval x = .slice (some ⟨g, 0, none⟩) n cap) (hy : a.eval y = .int .i64 k)
    (hr : BRow w g cap l) (hn : l.length = n) (h47 : n + k ≤ 140737488355328)
    (h : ∀ g' cap' w' n', BRow w' g' cap' (l ++ List.replicate k 0) → (l ++ List.replicate k (0 : UInt8)).length = n' → n' = n + k → Only (· = g) w w' → (g' = g ∨ g' = w.heap.size) → wpList Tryd.prog ops Q rest (a.put o.dst (.slice (some ⟨g', 0, none⟩) n' cap')) w') : wpList Tryd.prog ops Q (o :: rest) a w := by
  subst hn
  obtain ⟨g', cap', w', he, h1, h2, h3⟩ := app_zeros o.type hr k h47
  exact Lib.wpList_append_run w hgd x y _ _ ho _ _ hx hy _ _ he (h g' cap' w' _ h1 (by rw [List.length_append, List.length_replicate]) rfl h2 h3)
end
theorem one_bytes {w : World} (b : UInt8) (v : Value) (hv : v = .int .u8 (b.toNat : Int)) : BytesAt (w.alloc (.cells #[v] 5)) w.heap.size 0 [b] := by
  subst hv; exact At.bytes (l := [b]) (At.new w _ _)

theorem pad_fact {n sz : Nat} (h : n = sz + 1) : ∃ k : Nat, k = padTo sz ∧ (120 - (n : Int) % 64) % 64 = (k : Int) ∧ k < 64 := ⟨_, rfl, by rw [h]; unfold padTo; omega, by unfold padTo; omega⟩
/-- the message so far -/
structure Sg (w W : World) (g cap : Nat) (l : List UInt8) (n : Nat) : Prop where
  row : BRow W g cap l
  len : l.length = n
  out : At W w.heap.size 126 z32
  own : Only (fun _ => False) w W
  gt : w.heap.size < g
theorem Sg.next {w W W' : World} {g cap g' cap' n n' : Nat} {l l' : List UInt8} (h : Sg w W g cap l n) (br : BRow W' g' cap' l') (hl : l'.length = n') (o : Only (· = g) W W') (hg : g' = g ∨ g' = W.heap.size) : Sg w W' g' cap' l' n' :=
  ⟨br, hl, h.out.only o (by have := h.gt; omega), h.own.trans (o.mono (T := fun i => w.heap.size ≤ i) (fun i _ e => by have := h.gt; omega)) (fun i hi e => by omega), by have := h.gt; have := h.row.lt; omega⟩
theorem Sg.keep {w W W' : World} {g cap n : Nat} {l : List UInt8} (h : Sg w W g cap l n) (o : Only (fun _ => False) W W') : Sg w W' g cap l n :=
  ⟨h.row.only o (fun h => h), h.len, h.out.only o (fun h => h), h.own.trans o (fun _ _ h => h), h.gt⟩
theorem Sg.alloc {w W : World} {g cap n : Nat} {l : List UInt8} (h : Sg w W g cap l n) (o : Obj) : Sg w (W.alloc o) g cap l n := h.keep ((Only.refl _ W).alloc o)

theorem msg_done {w W : World} {g cap n k : Nat} {l : List UInt8} {sz : Nat} (h : Sg w W g cap (l ++ [0x80] ++ List.replicate k 0 ++ by4 ((sz : Int) * 8 / 4294967296) ++ by4 ((sz : Int) * 8 % 4294967296)) n) (hk : k = padTo sz) (hsz : l.length = sz) : Sg w W g cap (padded l) n := by
  subst hk hsz
  rw [padded_eq l _ _ (by omega) (by omega)] at h
  exact h
theorem BRow.cap {w : World} {g cap : Nat} {l : List UInt8} (h : BRow w g cap l) : (cap : Int) ≤ 9223372036854775807 := by
  obtain ⟨_, _, _, _, _, h, _⟩ := h; unfold maxLen at h; omega
theorem BRow.room {w : World} {g cap : Nat} {l : List UInt8} (h : BRow w g cap l) : l.length ≤ cap := by
  obtain ⟨_, _, _, _, _, _, _, h⟩ := h; exact h
theorem chunk_len {M : List UInt8} {K x : Nat} (h : M.length = 64 * K) (hx : x < K) : (chunkOf M x).length = 64 := by
  unfold chunkOf; rw [List.length_take, List.length_drop, h]; omega
theorem chunk_bytes {W : World} {g cap : Nat} {M : List UInt8} (h : BRow W g cap M) (x : Nat) : BytesAt W g (64 * x) (chunkOf M x) := fun j b hj => by
  unfold chunkOf at hj
  have hl := (List.getElem?_eq_some_iff.1 hj).1
  rw [List.length_take] at hl
  rw [List.getElem?_take_of_lt (by omega), List.getElem?_drop] at hj
  exact h.get _ b hj
theorem keepsOthers_of_only {W W' : World} {g : Nat} {t : TypeId} {cs : List Value} (h : Only (· = g) W W') (hA : At W g t cs) : KeepsOthers W W' :=
  ⟨h.size, fun k o hk ho => (h.same k (Array.getElem?_eq_some_iff.1 hk).1 (fun e => by subst e; rw [hA] at hk; cases hk; cases ho)).trans hk⟩
theorem infoB1 : (Tryd.prog.info? 5).map (·.size) = some 1 := by kernel_rfl
theorem copy_word {wr w' : World} {gO gb i : Nat} {t : TypeId} {cs : List Value} {x : Int} (hO : At wr gO t cs) (hl : cs.length = 32) (hi : i < 8) (q : Only (fun _ => False) wr w') (hb : At w' gb 5 (bcells (by4 x))) (ty : TypeId) :
    (Builtin.copy_ #[69, 69] ty #[.slice (some ⟨gO, 4 * i, none⟩) (32 - 4 * i) (32 - 4 * i), .slice (some ⟨gb, 0, none⟩) 4 4]).run Tryd.prog w' = .ok (goInt 4) (w'.setCells gO (4 * i) (bcells (by4 x))) := by
  have hO' := hO.only q (fun h => h)
  have h4 : (bcells (by4 x)).length = 4 := rfl
  refine run_copy_cells (P := Tryd.prog) w' _ _ ty _ gO (4 * i) (32 - 4 * i) (32 - 4 * i) ⟨gb, 0, none⟩ 4 4 (bcells (by4 x)) Tryd.underlying69 infoB1 (by rw [h4]; show 4 = min 4 (32 - 4 * i); omega) (fun j v hv => by rw [Addr.add_lit, Nat.zero_add]; exact hb.cell hv) (fun j hj => ?_) (fun j hj => hO'.frozen _) (bcells_one _)
  rw [h4] at hj
  have hj' : 4 * i + j < cs.length := by omega
  rw [hO'.cell (List.getElem?_eq_getElem hj')]; rfl
theorem arr32 : Tryd.prog.underlying 126 = some (.array (Tryd.prog.arrayLen 126) (Tryd.prog.elem 126)) := by kernel_rfl
theorem arrLen32 : Tryd.prog.arrayLen 126 = 32 := by kernel_rfl
theorem arrElem32 : Tryd.prog.elem 126 = 5 := by kernel_rfl
theorem slice_out (g i : Nat) (hi : i < 8) (w : World) : (Instr.sliceAt 126 (.pointer (some ⟨g, 0, none⟩)) (some (.int .i64 (4 * (i : Int)))) none none).run Tryd.prog w = .ok (.slice (some ⟨g, 4 * i, none⟩) (32 - 4 * i) (32 - 4 * i)) w := by
  rw [run_sliceAt_array_l (P := Tryd.prog) w _ ⟨g, 0, none⟩ arr32 .i64 (4 * (i : Int)) (by omega) (by rw [arrLen32]; omega), arrElem32, Tryd.sizeOf5, arrLen32]
  have e : (4 * (i : Int)).toNat = 4 * i := by omega
  simp only [Result.andThen_ok, slicedAt, e, if_neg (show ¬ 32 = 4 * i by omega), Addr.add_lit, Nat.mul_one, Nat.zero_add]
theorem Sg.put {w W W' W'' : World} {g cap n : Nat} {l : List UInt8} (h0 : Sg w W g cap l n) (h : Sg w W' g cap l n) (o : Only (· = W.heap.size) W' W'') (hz : W'.heap.size = W.heap.size + 1) : Sg w W'' g cap l n :=
  ⟨h.row.only o (by have := h0.row.lt; omega), h.len, h.out.only o (by have := h0.out.lt; omega), h.own.trans (o.mono (T := fun i => w.heap.size ≤ i) (fun i _ e => by have := h0.own.size; omega)) (fun i hi e => by omega), h.gt⟩

set_option maxRecDepth 100000 in
set_option maxHeartbeats 4000000 in
theorem sum_any (s : ByteArray) (w : World) (hs : s.size ≤ 140737488354000) :
    Calls Tryd.prog 105 #[.string s] w fun e w' => e = .returned (.agg (bcells (sha s.data.toList)).toArray) ∧ Only (fun _ => False) w w' := by
  refine (callsIn_wide (n := 9)).1 (callsIn_of_wp_marks Tryd.func105 rfl trivial (wpIn_wide.2 ?_) rfl)
  simp only [Tryd.ntmps105, List.size_toArray, List.length_cons, List.length_nil, Nat.reduceAdd, Nat.reduceSub, Array.replicate_succ, Array.replicate_zero, List.push_toArray, List.append_toArray, List.nil_append, List.cons_append]
  have HSZ : Hid (s.data.toList.length = s.size) := Lib.hid Array.length_toList
  go_wp2_with (first | (with_reducible refine wpl_alloc_all (o := ⟨some 2, _, _, _, _, _⟩) rfl _ rfl _ (zero32 _) ?_; intro w1 h1 o1 s1; obtain ⟨cap, hcv, hbr, hol⟩ := conv_brow w1 s (by omega); rw [s1] at hbr; have SG := Lib.hid (Sg.mk hbr HSZ.out (h1.only hol (fun h => h)) (o1.trans hol (fun _ _ h => h)) (Nat.lt_succ_self _)); clear h1 o1 hbr hol; generalize Lib.bytesWorld w1 5 s = w2 at hcv SG) |
    (refine wpl_app_bytes (o := ⟨some 13, _, _, _, _, _⟩) rfl (.tmp 11) (.tmp 12) rfl s.size w2.heap.size 0 1 1 rfl rfl (SG.out.alloc _).row HSZ.out [0x80] rfl (one_bytes (w := w2) 0x80 _ rfl) (by omega) ?_; intro g3 cap3 w3 n3 br3 hl3 hn3 o3 hg3; have S3 := Lib.hid ((SG.out.alloc _).next br3 hl3 o3 hg3); obtain ⟨k, hk1, hk2, hk3⟩ := pad_fact hn3; have HK := Lib.hid hk1; have HK3 := Lib.hid hk3; clear hk3; have HN3 := Lib.hid hn3; clear br3 hl3 hn3 o3 hg3 hk1 hcv SG s1) |
    (refine wpl_app_zeros (o := ⟨some 20, _, _, _, _, _⟩) rfl (.tmp 14) (.tmp 19) rfl n3 k rfl (congrArg (Value.int IntKind.i64) hk2) S3.out.row S3.out.len (by have := HN3.out; have := HK3.out; omega) ?_; intro g4 cap4 w4 n4 br4 hl4 hn4 o4 hg4; have S4 := Lib.hid (S3.out.next br4 hl4 o4 hg4); have HN4 := Lib.hid hn4; clear br4 hl4 hn4 o4 hg4 S3))
  refine (bytes_any _ w4).mono ?_
  rintro e w5 ⟨rfl, h5, o5, _⟩
  have S5 := Lib.hid (S4.out.keep o5)
  have HB5 := Lib.hid h5.bytes
  clear h5 o5 S4
  go_wp2_with (refine wpl_app_bytes (o := ⟨some 30, _, _, _, _, _⟩) rfl (.tmp 25) (.tmp 29) rfl n4 w4.heap.size 0 4 4 rfl rfl S5.out.row S5.out.len (by4 _) rfl HB5.out (by have := HN3.out; have := HN4.out; have := HK3.out; omega) ?_; intro g6 cap6 w6 n6 br6 hl6 hn6 o6 hg6; have S6 := Lib.hid (S5.out.next br6 hl6 o6 hg6); have HN6 := Lib.hid hn6; clear br6 hl6 hn6 o6 hg6 S5 HB5)
  refine (bytes_any _ w6).mono ?_
  rintro e w7 ⟨rfl, h7, o7, _⟩
  have S7 := Lib.hid (S6.out.keep o7)
  have HB7 := Lib.hid h7.bytes
  clear h7 o7 S6
  go_wp2_with (refine wpl_app_bytes (o := ⟨some 34, _, _, _, _, _⟩) rfl (.tmp 30) (.tmp 33) rfl n6 w6.heap.size 0 4 4 rfl rfl S7.out.row S7.out.len (by4 _) rfl HB7.out (by have := HN3.out; have := HN4.out; have := HN6.out; have := HK3.out; omega) ?_; intro g8 cap8 w8 n8 br8 hl8 hn8 o8 hg8; have S8 := Lib.hid (msg_done (S7.out.next br8 hl8 o8 hg8) HK.out HSZ.out); have HN8 := Lib.hid hn8; clear br8 hl8 hn8 o8 hg8 S7 HB7)
  obtain ⟨K, hK⟩ := padded_len s.data.toList
  obtain rfl : n8 = 64 * K := by have := S8.out.len; omega
  have HKB := Lib.hid (show (64 * K : Int) ≤ 9223372036854775807 by have := HN3.out; have := HN4.out; have := HN6.out; have := HN8.out; have := HK3.out; omega)
  have HKL := Lib.hid hK
  clear hK HN8 HN6 HN4 HN3 HK3 HK hk2
  refine (start_any w8).mono ?_
  rintro e w9 ⟨rfl, o9⟩
  have S9 := Lib.hid (S8.out.keep o9)
  clear o9 S8
  have L8 := Lib.hid (show ivZ.length = (u32s iv.l).length by decide)
  have HU := Lib.hid (u32s_one iv.l)
  go_wp2_with (first | (with_reducible refine wpl_alloc_all (o := ⟨some 5, _, _, _, _, _⟩) rfl _ rfl _ (zero8 _) ?_; intro w10 h10 o10 s10; have H10 := Lib.hid h10; have S10 := Lib.hid (S9.out.keep o10); have Z10 := Lib.hid s10; clear h10 o10 s10) |
    (refine wpl_store_all rfl 140 (.tmp 5) (.tmp 35) rfl w9.heap.size 140 ivZ (u32s iv.l) rfl rfl H10.out L8.out (infoS iv) HU.out ?_; intro w11 h11 o11 s11; have H11 := Lib.hid h11; have S11 := Lib.hid (Sg.put S9.out S10.out o11 Z10.out); clear h11 o11 H10 L8 HU))
  refine (chunk_any _ w11 g8 (64 * K) cap8 rfl).mono ?_
  rintro e w12 ⟨Bs, Bn, rfl, b1, b2, b3, b4, c1, c2, o12⟩
  have S12 := Lib.hid (S11.out.keep o12)
  have H12 := Lib.hid (H11.out.only o12 (fun h => h))
  have C1 := Lib.hid c1
  have C2 := Lib.hid c2
  have Z9 := Lib.hid (show w9.heap.size < w12.heap.size ∧ w9.heap.size ≠ Bs ∧ w9.heap.size ≠ Bn ∧ w.heap.size < w9.heap.size ∧ g8 < w9.heap.size by have := S9.out.row.lt; have := S9.out.out.lt; have := H11.out.lt; have := H12.out.lt; omega)
  have B3 := Lib.hid b3
  have B4 := Lib.hid b4
  clear b1 b2 b3 b4 c1 c2 o12 S11 H11 S10 Z10 S9 s11
  obtain ⟨gs, hgs⟩ : ∃ gs, gs = w9.heap.size := ⟨_, rfl⟩
  rw [← hgs] at H12 Z9 ⊢
  clear hgs
  go_wp2_with fail
  have hcap : (cap8 : Int) ≤ 9223372036854775807 := S12.out.row.cap
  refine' wpIn_wide.1 (wpIn_rangeFunc_ownF (F := Fence.wide) (n := 9) rfl (by decide) (gf := 141) (lb := #[.pointer (some ⟨Bs, 0, none⟩), .pointer (some ⟨Bn, 0, none⟩)]) rfl trivial (enters_of Tryd.func141 (by kernel_rfl) rfl)
    (chunk_stops Fence.wide 8 trivial rfl (by decide) Bs Bn w12.heap.size gs g8 cap8 K HKB.out (by have := S12.out.row.room; have := HKL.out; omega) hcap B3.out B4.out (by have := Z9.out; omega) (by have := Z9.out; omega) w12 (Nat.le_refl _) C1.out C2.out) kpG_t (kpG_b (Nat.le_refl _)) (Below.refl _ _) (fun _ => rfl)
    (fun pre W => At W gs 140 (u32s (foldB (padded s.data.toList) pre).l) ∧ BRow W g8 cap8 (padded s.data.toList) ∧ Only (· = gs) w12 W) (fun _ _ _ => False)
    (OwnFrom.and (Own.from (own_at (fun pre => u32s (foldB (padded s.data.toList) pre).l)) _) (OwnFrom.and (Own.from own_row _) (ownFrom_only (Nat.le_refl _)))) (fun _ _ _ _ _ h _ _ => h) ⟨H12.out, S12.out.row, Only.refl _ _⟩ _ ?assign ?body ?done ?stop)
  case stop => rintro D c pre W _ _ h _; exact h.elim
  case assign =>
    intro l x W K hK
    gi_wp2
    exact hK
  case body =>
    rintro l pre x W ⟨hA, hR, hO⟩ hlen
    have HA := Lib.hid hA
    have HR := Lib.hid hR
    have HO := Lib.hid hO
    have AD := Lib.hid (dadd_any gs g8 (64 * x.val) 64 64 (foldB (padded s.data.toList) pre) (chunkOf (padded s.data.toList) x.val) W (Nat.le_refl _) (Nat.le_refl _) (by omega) (chunk_len HKL.out x.isLt) (chunk_bytes hR x.val) hA (by have := Z9.out; omega))
    clear hA hR hO
    gi_wp2_with (refine ⟨trivial, ?_⟩; gi_at_call 125; refine (CallsIn.inRound l (callsIn_wide.2 AD.out)).mono ?_; rintro e W1 ⟨rfl, hA1, ho1⟩)
    exact ⟨keepsOthers_of_only ho1 HA.out, ho1.mono (fun _ _ h => .inl h), by rw [foldB_snoc]; exact hA1, HR.out.only ho1 (by have := Z9.out; omega), HO.out.trans ho1 (fun _ _ h => h)⟩
  case done =>
    rintro D ys W hD rfl ⟨hA, hR, hO⟩ hK
    rw [foldB_fins _ K (Nat.le_refl _)] at hA
    have HU1 := Lib.hid (S12.out.own.trans (hO.mono (T := fun i => w.heap.size ≤ i) (fun i _ e => by have := Z9.out; omega)) (fun i hi e => by omega))
    have HZ1 := Lib.hid (S12.out.out.only hO (by have := Z9.out; omega))
    have HSH : Hid (bcells (sha s.data.toList) = outW (blocks (padded s.data.toList) K).l 8) := Lib.hid (by rw [outW_end]; unfold sha; rw [HKL.out, Nat.mul_div_cancel_left _ (by omega)])
    have HA := Lib.hid hA
    have HD := Lib.hid hK
    have ZW := Lib.hid (show gs < W.heap.size ∧ w.heap.size < gs ∧ D < W.heap.size ∧ w.heap.size < D from ⟨hA.lt, Z9.out.2.2.2.1, (Array.getElem?_eq_some_iff.1 hK).1, by have := Z9.out; omega⟩)
    clear hA hR hO S12 C1 C2 B3 B4 H12 hcap Z9 HKL HKB HSZ
    generalize blocks (padded s.data.toList) K = st at *
    go_wp2_with (first | (with_reducible refine wpl_alloc_all (o := ⟨some 7, _, _, _, _, _⟩) rfl _ rfl _ (zero32 _) ?_; intro W1 a1 q1 z1; have A1 := Lib.hid a1; have Q1 := Lib.hid q1; clear a1 q1) |
      (refine wpl_load_all (o := ⟨some 41, _, _, _, _, _⟩) rfl 140 (.tmp 5) rfl gs rfl 140 (u32s st.l) _ (HA.out.only Q1.out (fun h => h)) Tryd.underlying140 rfl (infoS st) ?_))
    have HU := Lib.hid (HU1.out.trans Q1.out (fun _ _ h => h.elim))
    have HZ := Lib.hid (HZ1.out.only Q1.out (fun h => h))
    have HD1 := Lib.hid ((Q1.out.same D ZW.out.2.2.1 (fun h => h)).trans HD.out)
    clear HU1 HZ1 HD hK HA Q1 z1
    go_loopw [42] (fun iv wr => ∃ i : Nat, i ≤ 8 ∧ iv = .int .i64 i ∧ Hid (At wr W.heap.size 126 (outW st.l i)) ∧ Hid (At wr w.heap.size 126 z32) ∧ Hid (Only (fun _ => False) w wr) ∧ Hid (wr.heap[D]? = some (.deferred (some [])))) (fun iv _ => 8 - (intOf iv).toNat)
    case atStart => exact ⟨0, by omega, rfl, A1.out, HZ.out, HU.out, HD1.out⟩
    case round =>
      clear A1 HZ HU HD1
      obtain ⟨i, hi, rfl, hO, hZ, hU, hD1⟩ := hrel
      by_cases hlt : i < 8
      · have hv : (u32s st.l)[i]? = some (.int .u32 (st.l.getD i 0)) := by
          have : i < st.l.length := hlt
          simp [u32s, List.getD_eq_getElem?_getD, this]
        have HV := Lib.hid hv
        have NO := Lib.hid (show outW st.l (i + 1) = setL (outW st.l i) (4 * i) (bcells (by4 (st.l.getD i 0))) from rfl)
        clear hv
        generalize st.l.getD i 0 = x at *
        have i1 : (i : Int) < 8 := by omega
        have i2 : (4 : Int) * (i : Int) ≤ 32 := by omega
        have i3 : IntKind.i64.wrap (4 * (i : Int)) = 4 * (i : Int) := by rw [IntKind.wrap_i64]; omega
        go_wp2_with (refine wpl_index rfl 140 (.tmp 41) (.tmp 42) rfl (u32s st.l) .i64 i rfl rfl Tryd.underlying140 (Tryd.sizeOf139 _) (Tryd.isAgg139 _) hlt _ HV.out ?_)
        have SL := fun w => slice_out W.heap.size i hlt w
        first | (go_region_with (go_at_call 122; refine (bytes_any _ _).mono ?_; rintro e w' ⟨rfl, hb, ob, zb⟩; have q := ((Only.refl (fun _ => False) wr).drewN _).trans ob (fun _ _ h => h); have CP := copy_word (gb := wr.heap.size) hO.out (outW_len st.l i) hlt (((Only.refl (fun _ => False) wr).drewN _).trans ob (fun _ _ h => h)) hb)) | skip
        all_goals go_wp2_with fail
        all_goals
          refine ⟨⟨i + 1, by omega, by go_num, ?_, ?_, ?_, ?_⟩, by simp [intOf]; omega⟩
          · rw [NO.out]; exact (hO.out.only q (fun h => h)).puts _ _ _ _
          · exact (hZ.out.only q (fun h => h)).only (Only.of_setCells _ _ _ _) (by have := ZW.out; omega)
          · exact (hU.out.trans q (fun _ _ h => h)).trans (Only.of_setCells _ _ _ _) (fun k hk e => by have := ZW.out; omega)
          · have d1 := (q.same D (Array.getElem?_eq_some_iff.1 hD1.out).1 (fun h => h)).trans hD1.out
            exact ((Only.of_setCells W.heap.size (bcells (by4 x)) (4 * i) w').same D (Array.getElem?_eq_some_iff.1 d1).1 (by have := ZW.out; omega)).trans d1
      · obtain rfl : i = 8 := by omega
        have L0 := Lib.hid (show z32.length = (outW st.l 8).length by rw [outW_len]; rfl)
        have I0 := Lib.hid (show (Tryd.prog.info? 126).map (·.size) = some (outW st.l 8).length by rw [outW_len]; exact info32)
        have V0 := Lib.hid (show ∀ v ∈ outW st.l 8, v.oneCell' = true by rw [← HSH.out]; exact bcells_one _)
        obtain ⟨ow, how⟩ : ∃ ow, ow = outW st.l 8 := ⟨_, rfl⟩
        rw [← how] at hO HSH L0 I0 V0
        clear how
        go_wp2_with (first | (refine wpl_load_all (o := ⟨some 53, _, _, _, _, _⟩) rfl 126 (.tmp 7) rfl W.heap.size rfl 126 ow _ hO.out Tryd.underlying126 rfl I0.out ?_) |
          (refine wpl_store_all rfl 126 (.tmp 2) (.tmp 53) rfl w.heap.size 126 z32 ow rfl rfl hZ.out L0.out I0.out V0.out ?_; intro wy hy oy sy; have HY := Lib.hid hy; have OY := Lib.hid oy; clear hy oy sy))
        have hKy := (OY.out.same D (Array.getElem?_eq_some_iff.1 hD1.out).1 (by have := ZW.out; omega)).trans hD1.out
        refine ⟨by simp, .inl ⟨_, _, rfl, run_takeDeferred hKy, ?_⟩⟩
        have gb := grownBy_putObj' wy D (.deferred none)
        refine ⟨_, results_all rfl _ w.heap.size rfl _ _ _ (HY.out.grown gb (fun e => by have := ZW.out; cases e; omega)) Tryd.underlying126 rfl I0.out, ?_, ?_⟩
        · rw [HSH.out]
        · exact (hU.out.trans OY.out (fun k hk e => by omega)).grown gb (fun k e hk => by have := ZW.out; cases e; omega)
end Go.Proofs.YtjmdfipofgmakaaDoor
