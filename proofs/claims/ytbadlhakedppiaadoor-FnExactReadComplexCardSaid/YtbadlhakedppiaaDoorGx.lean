/- Slices of complex numbers of the call's own: grown, compared, marked. -/
import Derived.Test.YtbadlhakedppiaaDoorGn
import Derived.Test.YtbadlhakedppiaaDoorCx
namespace Go.Proofs.YtbadlhakedppiaaDoor
set_option maxRecDepth 100000
set_option linter.unusedVariables false
open Go.Lib Go.RowKit Go.Sort
def cval (z : Nat × Nat) : Value := .complex .f32 z.1 z.2
/-- a slice that reads as these complex numbers -/
def Zs (w : World) (a : Option Addr) (zs : List (Nat × Nat)) : Prop := zs = [] ∨ ∃ b, a = some ⟨b, 0, none⟩ ∧ b < w.heap.size ∧ ∀ j, j < zs.length → w.cell? ⟨b, j, none⟩ = some (cval (zs.getD j (0, 0)))
theorem Zs.below {w w' : World} {a : Option Addr} {zs : List (Nat × Nat)} (h : Zs w a zs) (hb : Below w.heap.size w w') : Zs w' a zs := by
  rcases h with h | ⟨b, rfl, h1, h2⟩
  · exact .inl h
  · exact .inr ⟨b, rfl, Nat.lt_of_lt_of_le h1 hb.size, fun j hj => (hb.cell (p := ⟨b, j, none⟩) h1).trans (h2 j hj)⟩
theorem Zs.drewN {w : World} {a : Option Addr} {zs : List (Nat × Nat)} (h : Zs w a zs) (n : Nat) : Zs (w.drewN n) a zs := h
theorem Zs.at {w : World} {a : Option Addr} {zs : List (Nat × Nat)} (h : Zs w a zs) {k : Nat} (hk : k < zs.length) : ∃ b, a = some ⟨b, 0, none⟩ ∧ w.cell? ⟨b, k, none⟩ = some (cval (zs.getD k (0, 0))) := by
  rcases h with h | ⟨b, rfl, h1, h2⟩
  · rw [h] at hk; cases hk
  · exact ⟨b, rfl, h2 k hk⟩
/-- a slice of the call's own -/
def Oz (w : World) (base : Nat) (v : Value) (zs : List (Nat × Nat)) : Prop := w.ownsRow base 47 1 v zs.length (zs.map cval)
theorem Oz.below {w w' : World} {b : Nat} {v : Value} {zs : List (Nat × Nat)} (h : Oz w b v zs) (hB : Below w.heap.size w w') : Oz w' b v zs := by
  refine ⟨h.1, ?_⟩
  rcases h.2 with q | ⟨g, c, cur, e, h1, h2, r⟩
  · exact .inl q
  · exact .inr ⟨g, c, cur, e, h1, by rw [hB.block g (Array.getElem?_eq_some_iff.1 h2).1]; exact h2, r⟩
theorem Oz.base {w : World} {b b' : Nat} {v : Value} {zs : List (Nat × Nat)} (h : Oz w b v zs) (hb : b' ≤ b) : Oz w b' v zs := by
  refine ⟨h.1, ?_⟩
  rcases h.2 with q | ⟨g, c, cur, e, h1, r⟩
  · exact .inl q
  · exact .inr ⟨g, c, cur, e, by omega, r⟩
theorem Oz_empty (w : World) (base : Nat) (h : base ≤ w.heap.size) : Oz (w.alloc (.cells #[] 47)) base (.slice (some ⟨w.heap.size, 0, none⟩) 0 0) [] := by
  refine ⟨rfl, .inr ⟨w.heap.size, 0, #[], rfl, h, heap_alloc_new w _, Nat.le_refl _, by simp, rfl, rfl⟩⟩
theorem Oz_nil (w : World) (base : Nat) : Oz w base (.slice none 0 0) [] := ⟨rfl, .inl ⟨rfl, rfl⟩⟩
theorem Oz.zs {w : World} {base : Nat} {v : Value} {zs : List (Nat × Nat)} (h : Oz w base v zs) : ∃ a cap, v = .slice a zs.length cap ∧ Zs w a zs ∧ (zs ≠ [] → ∃ g, a = some ⟨g, 0, none⟩ ∧ base ≤ g) := by
  obtain ⟨h1, ⟨rfl, h3⟩ | ⟨g, cap, cur, rfl, hb, hh, hn, hc, hs, ht⟩⟩ := h
  · have : zs = [] := List.eq_nil_of_length_eq_zero h3
    subst this
    exact ⟨none, 0, rfl, .inl rfl, fun q => absurd rfl q⟩
  · refine ⟨_, _, rfl, ?_, fun _ => ⟨g, rfl, hb⟩⟩
    refine .inr ⟨g, rfl, (Array.getElem?_eq_some_iff.1 hh).1, fun j hj => ?_⟩
    simp only [World.cell?, hh]
    have e : cur[j]? = (zs.map cval)[j]? := by
      rw [← ht, List.getElem?_take_of_lt (by omega)]
      simp
    simp [e, hj]
theorem Oz.zs' {w : World} {base : Nat} {a : Option Addr} {n cap : Nat} {zs : List (Nat × Nat)} (h : Oz w base (.slice a n cap) zs) : Proofs.YtbadlhakedppiaaDoor.Zs w a zs := by
  obtain ⟨a2, c2, e, hF, _⟩ := h.zs
  injection e with e1 e2 e3
  rw [e1]; exact hF
theorem run_pushZ (w : World) (base : Nat) (v : Value) (zs : List (Nat × Nat)) (x y : Nat) (h : Oz w base v zs) (hb : base ≤ w.heap.size) (hl : zs.length ≤ 1048576) (ty : TypeId) {a : Option Addr} {ws : List ByteArray} (hx : Sx w a ws v.ownBlock) :
    ∃ v' w', (Builtin.append_ #[32, 32] ty #[v, .slice (some ⟨w.heap.size, 0, none⟩) 1 1]).run Tryd.prog (w.alloc (.cells #[.complex .f32 x y] 47)) = .ok v' w' ∧ Oz w' base v' (zs ++ [(x, y)]) ∧ Below base w w' ∧ Sx w' a ws v'.ownBlock := by
  have h' : Oz (w.alloc (.cells #[.complex .f32 x y] 47)) base v zs := h.below ((Below.refl _ _).alloc (Nat.le_refl _) _)
  obtain ⟨i, hi, hz0, hz1, hz2⟩ := info_parts (P := Tryd.prog) (e := 47) (z := .complex .f32 0 0) (size := 1) (bytes := 8) (by kernel_rfl)
  obtain ⟨v', w', hr, h2, h3, _, h5⟩ := run_append_own_at (P := Tryd.prog) (w.alloc (.cells #[.complex .f32 x y] 47)) base 32 ty 47 i (.complex .f32 0 0) 1 8 Tryd.underlying32 hi hz0 hz1 hz2 rfl (by omega) v zs.length (zs.map cval) h' ⟨w.heap.size, 0, none⟩ 1 1 [.complex .f32 x y] rfl
    (fun j u hj => by
      cases j with
      | zero => simp at hj; subst hj; simp [Addr.add]
      | succ j => simp at hj) (fun u hu => by simp at hu; subst hu; rfl) (by unfold maxLen; omega) (by omega) (by simp; omega)
  refine ⟨v', w', hr, ?_, ((Below.refl base w).alloc hb _).grown h3 (by simp; omega) (fun k hk => ?_), (hx.below ((Below.refl _ _).alloc (Nat.le_refl _) _)).grown h3 h5⟩
  · unfold Oz
    rw [List.length_append, List.map_append]
    exact h2
  · rcases h.2 with ⟨rfl, _⟩ | ⟨g, c, cur, rfl, h1, _⟩
    · cases hk
    · have : g = k := by injection hk
      omega
theorem Oz.set {w : World} {base g cap : Nat} {zs : List (Nat × Nat)} (h : Oz w base (.slice (some ⟨g, 0, none⟩) zs.length cap) zs) {j : Nat} (hj : j < zs.length) (x : Nat × Nat) :
    (∃ u, w.cell? ⟨g, j, none⟩ = some u) ∧ w.frozen? ⟨g, j, none⟩ = false ∧ base ≤ g ∧ Oz (w.setCell ⟨g, j, none⟩ (cval x)) base (.slice (some ⟨g, 0, none⟩) zs.length cap) (zs.set j x) := by
  obtain ⟨h1, ⟨h2, h3⟩ | ⟨g', c, cur, h2, hb, hh, hn, hc, hs, ht⟩⟩ := h
  · cases h2
  · cases h2
    have hjc : j < cur.size := by omega
    refine ⟨⟨cur[j], by simp [World.cell?, hh, hjc]⟩, by simp [World.frozen?, hh], hb, ?_⟩
    unfold Oz
    rw [List.length_set]
    refine ⟨by simp, .inr ⟨g, cap, cur.setIfInBounds j (cval x), rfl, hb, ?_, hn, hc, by simpa using hs, ?_⟩⟩
    · rw [setCell_eq_setRow w g j _ _ (0, 0) _ hh, setRow_heap w g _ _ _ (0, 0) hh]
    · rw [List.map_set, ← ht]
      simp [List.take_set]

/-! from 32 to 64 bits, as an equation -/
def nanv2 (x : Nat) (w : World) : Nat := Question.cut (.nanConv .f64 x) (w.tape w.drawn (.nanConv .f64 x))
def upv (x : Nat) (w : World) : Nat := match FloatKind.f32.decode x with | .nan _ _ => nanv2 x w | .infinity g => FloatKind.f64.encode (.infinity g) | .number g m e => FloatKind.f64.encode (.number g m e)
def upw (x : Nat) (w : World) : World := match FloatKind.f32.decode x with | .nan _ _ => w.drew | _ => w
theorem upv_cn (x : Nat) (w : World) : cn .f64 (upv x w) = cconv .f32 .f64 (cn .f32 x) := by
  unfold upv
  cases hx : FloatKind.f32.decode x with
  | nan g t => exact (cut_nanConv .f64 x _).trans (by simp [cn, hx, Ieee.Datum.isNaN, cconv])
  | infinity g =>
    have e : cn .f32 x = some x := by simp [cn, hx, Ieee.Datum.isNaN]
    rw [e]; simp only [cconv, hx, cn]
    rw [if_neg]; have := write_not_nan FloatKind.f64.format (d := .infinity g) rfl; simp [FloatKind.decode, FloatKind.encode, this]
  | number g m e =>
    have e1 : cn .f32 x = some x := by simp [cn, hx, Ieee.Datum.isNaN]
    rw [e1]; simp only [cconv, hx, cn]
    rw [if_neg]; have := write_not_nan FloatKind.f64.format (d := .number g m e) rfl; simp [FloatKind.decode, FloatKind.encode, this]
theorem upv_eq {x y : Nat} (h : cn .f32 x = cn .f32 y) (w w2 : World) : cn .f64 (upv x w) = cn .f64 (upv y w2) := by rw [upv_cn, upv_cn, h]
theorem ftf_up (P : Program) (x : Nat) (w : World) : (Conv.floatToFloat .f32 x .f64).run P w = .ok (.float .f64 (upv x w)) (upw x w) := by
  unfold upv upw
  cases hx : FloatKind.f32.decode x with
  | nan g t => simp [Conv.floatToFloat, hx, choose, Sem.run, Question.forced, nanv2]
  | infinity g => simp [Conv.floatToFloat, hx]
  | number g m e =>
    have e1 : cn .f32 x = some x := by simp [cn, hx, Ieee.Datum.isNaN]
    have hf := fits_up (cn .f32 x)
    rw [e1] at hf
    have hfit := hf g m e hx
    simp [Conv.floatToFloat, hx, hfit]
theorem run_upC (x y : Nat) (w : World) : (convert 47 49 (.complex .f32 x y)).run Tryd.prog w = .ok (.complex .f64 (upv x w) (upv y (upw x w))) (upw y (upw x w)) := by
  have hs := Tryd.underlying47
  have hd := Tryd.underlying49
  simp [convert, run_underlying hs, run_underlying hd, Conv.complexToComplex, ftf_up]
def DrZ (w w' : World) : Prop := ∃ n, w' = w.drewN n
theorem DrZ.drewN {w w' : World} (h : DrZ w w') (n : Nat) : DrZ w (w'.drewN n) := by obtain ⟨m, e⟩ := h; exact ⟨m + n, by rw [e]; simp⟩
theorem DrZ.drew {w w' : World} (h : DrZ w w') : DrZ w w'.drew := by obtain ⟨m, e⟩ := h; exact ⟨m + 1, by rw [e]; simp⟩
theorem DrZ.upw {w w' : World} (h : DrZ w w') (x : Nat) : DrZ w (upw x w') := by
  unfold Proofs.YtbadlhakedppiaaDoor.upw
  split
  · exact h.drew
  · exact h
theorem DrZ.refl (w : World) : DrZ w w := ⟨0, rfl⟩
theorem upw_cell (x : Nat) (w : World) (p : Addr) : (upw x w).cell? p = w.cell? p := by
  unfold upw; split <;> rfl
set_option maxHeartbeats 4000000 in
theorem laws_eqComplex64S (a b : Option Addr) (cap cap2 : Nat) (zs : List (Nat × Nat)) (w : World) (hs : Zs w a zs) (ht : Zs w b zs) (hl : zs.length ≤ 1048577) :
    Calls Tryd.prog 16 #[.slice a zs.length cap, .slice b zs.length cap2] w (RetV (.bool true) w) := by
  have HS := Lib.hid hs
  have HT := Lib.hid ht
  have hup := fun x y w => run_upC x y w
  clear hs ht
  go_enter Tryd.func16, Tryd.ntmps16
  go_wp2
  go_loopw [5] (fun i wr => ∃ k : Nat, k ≤ zs.length ∧ i = .int .i64 k ∧ Hid (DrZ w wr)) (fun i _ => zs.length - (Lib.intOf i).toNat)
  case atStart => exact ⟨0, by omega, rfl, DrZ.refl w⟩
  case round =>
    obtain ⟨k, hk, rfl, hR⟩ := hrel
    by_cases hlt : k < zs.length
    · obtain ⟨b1, rfl, hc1⟩ := HS.out.at hlt
      obtain ⟨b2, rfl, hc2⟩ := HT.out.at hlt
      have h1 : wr.cell? ⟨b1, k, none⟩ = some (.complex .f32 (zs.getD k (0, 0)).1 (zs.getD k (0, 0)).2) := by
        obtain ⟨nq, e⟩ := hR.out
        rw [e]; exact hc1
      have h2 : wr.cell? ⟨b2, k, none⟩ = some (.complex .f32 (zs.getD k (0, 0)).1 (zs.getD k (0, 0)).2) := by
        obtain ⟨nq, e⟩ := hR.out
        rw [e]; exact hc2
      clear hc1 hc2
      generalize (zs.getD k (0, 0)).1 = x at h1 h2
      generalize (zs.getD k (0, 0)).2 = y at h1 h2
      have hki : (k : Int) < (zs.length : Int) := by omega
      have hk0 : (0 : Int) ≤ (k : Int) := by omega
      have hcw := upw_cell
      go_wp2
      go_region_with (go_at_call 28; refine (laws_sameComplex _ _ _ _ (upv_eq rfl _ _) (upv_eq rfl _ _) _).mono ?_; rintro _ _ ⟨nd, rfl, rfl⟩)
      all_goals go_wp2
      all_goals go_roundw
      all_goals first
        | exact ⟨k + 1, by omega, by go_num, by
            repeat (first | exact hR.out | refine DrZ.drewN ?_ _ | refine DrZ.drew ?_ | refine DrZ.upw ?_ _)⟩
        | (simp [Lib.intOf]; omega)
    · go_wp2
      go_ret
      obtain ⟨nq, e⟩ := hR.out
      rw [e]
      exact RetV.mk rfl
/-! marks -/
def narrowZ (x : Nat) : Nat := match FloatKind.f64.decode x with | .number g m e => FloatKind.f32.encode (.number g m e) | _ => 0
def isMark (x : Nat) : Bool := match FloatKind.f64.decode x with
  | .number g m e => !(FloatKind.f32.decode (FloatKind.f32.encode (.number g m e))).isInfinity
  | _ => false
theorem marks_tab : ∀ k : Fin 300, isMark (floatOfInt .f64 (k.val : Int)) = true := by decide +kernel
theorem mark_one : isMark 4607182418800017408 = true ∧ narrowZ 4607182418800017408 = 1065353216 := by decide +kernel
theorem isMark_run (P : Program) {x : Nat} (h : isMark x = true) (w : World) : (Conv.floatToFloat .f64 x .f32).run P w = .ok (.float .f32 (narrowZ x)) w := by
  unfold isMark at h
  unfold narrowZ
  cases hx : FloatKind.f64.decode x with
  | nan g t => rw [hx] at h; cases h
  | infinity g => rw [hx] at h; cases h
  | number g m e =>
    rw [hx] at h
    dsimp only at h ⊢
    have hf : (FloatKind.f32.decode (FloatKind.f32.encode (.number g m e))).isInfinity = false := by simpa using h
    simp [Conv.floatToFloat, hx, hf]
theorem isMark_cn {x : Nat} (h : isMark x = true) : cn .f32 (narrowZ x) = some (narrowZ x) := by
  unfold isMark at h
  unfold narrowZ
  cases hx : FloatKind.f64.decode x with
  | nan g t => rw [hx] at h; cases h
  | infinity g => rw [hx] at h; cases h
  | number g m e =>
    dsimp only
    unfold cn
    rw [if_neg]
    have := write_not_nan FloatKind.f32.format (d := .number g m e) rfl
    simp [FloatKind.decode, FloatKind.encode, this]
theorem run_dnC {x y : Nat} (hx : isMark x = true) (hy : isMark y = true) (w : World) : (convert 49 47 (.complex .f64 x y)).run Tryd.prog w = .ok (.complex .f32 (narrowZ x) (narrowZ y)) w := by
  have hs := Tryd.underlying49
  have hd := Tryd.underlying47
  simp [convert, run_underlying hs, run_underlying hd, Conv.complexToComplex, isMark_run _ hx, isMark_run _ hy]
theorem run_neqC {x y : Nat} (hx : cn .f32 x = some x) (hy : cn .f32 y = some y) (t : TypeId) (w : World) : (binOp .neq t (.complex .f32 x y) (.complex .f32 x y)).run Tryd.prog w = .ok (.bool false) w := by
  have h1 := order_self hx
  have h2 := order_self hy
  simp [binOp, Op.complexOp, Op.Complex.cmp, Op.floatCmp, asBool, h1, h2]
/-- the mark of a number -/
def mk1 (k : Int) : Nat × Nat := (narrowZ (floatOfInt .f64 k), 1065353216)
def marksZ (k : Int) (n : Nat) : List (Nat × Nat) := (List.range n).map fun (j : Nat) => mk1 (k + (j : Int))
theorem marksZ_get (k : Int) (n j : Nat) (hj : j < n) : (marksZ k n).getD j (0, 0) = mk1 (k + (j : Int)) := by
  unfold marksZ
  simp [hj]
theorem marksZ_len (k : Int) (n : Nat) : (marksZ k n).length = n := by unfold marksZ; simp
theorem run_storeZ {w : World} {p : Addr} {u : Value} (x y : Nat) (hc : w.cell? p = some u) (hf : w.frozen? p = false) : (store p (.complex .f32 x y)).run Tryd.prog w = .ok () (w.setCell p (.complex .f32 x y)) := by
  rw [run_store Tryd.prog w p (.complex .f32 x y) .plain rfl, hc, hf]; rfl
theorem mark_at {k0 j : Nat} (h : k0 + j < 300) : isMark (floatOfInt .f64 ((k0 : Int) + (j : Int))) = true := by
  have := marks_tab ⟨k0 + j, h⟩
  rwa [show (((⟨k0 + j, h⟩ : Fin 300).val : Nat) : Int) = (k0 : Int) + (j : Int) by simp] at this
theorem take_setZ (l xs : List (Nat × Nat)) (k : Nat) (x : Nat × Nat) (hk : k < l.length) (hk2 : k < xs.length) (h : l.take k = xs.take k) (hx : x = xs.getD k (0, 0)) : (l.set k x).take (k + 1) = xs.take (k + 1) := by
  rw [List.take_succ_eq_append_getElem (by simpa using hk), List.take_succ_eq_append_getElem hk2, List.take_set_of_le (Nat.le_refl _), h]
  simp [hx, hk2]
set_option maxHeartbeats 1000000 in
theorem laws_heldComplex64S (a : Option Addr) (cap : Nat) (n : Nat) (w : World) (hs : Zs w a (marksZ 1 n)) (hn : n ≤ 256) :
    Calls Tryd.prog 18 #[.slice a n cap, .int .i64 1] w (RetV (.int .i64 (1 + n)) w) := by
  have HS := Lib.hid hs
  clear hs
  go_enter Tryd.func18, Tryd.ntmps18
  go_wp2
  go_loopw [1, 5] (fun kk i wr => ∃ j nq : Nat, j ≤ n ∧ i = .int .i64 j ∧ kk = .int .i64 (1 + j) ∧ wr = w.drewN nq) (fun _ i _ => n - (Lib.intOf i).toNat)
  case atStart => exact ⟨0, 0, by omega, rfl, by simp, rfl⟩
  case round =>
    obtain ⟨j, nq, hj, rfl, rfl, rfl⟩ := hrel
    by_cases hlt : j < n
    · obtain ⟨b1, rfl, hc1⟩ := HS.out.at (k := j) (by rw [marksZ_len]; exact hlt)
      rw [marksZ_get _ _ _ hlt] at hc1
      have M := mark_at (k0 := 1) (j := j) (by omega)
      have hm : isMark (floatOfInt .f64 (1 + (j : Int))) = true := M
      have h1 : w.cell? ⟨b1, j, none⟩ = some (.complex .f32 (narrowZ (floatOfInt .f64 (1 + (j : Int)))) 1065353216) := hc1
      have hdn := fun w => (mark_one.2 ▸ run_dnC hm mark_one.1 w : (convert 49 47 (.complex .f64 (floatOfInt .f64 (1 + (j : Int))) 4607182418800017408)).run Tryd.prog w = .ok (.complex .f32 (narrowZ (floatOfInt .f64 (1 + (j : Int)))) 1065353216) w)
      have hne := fun t w => run_neqC (isMark_cn hm) (y := 1065353216) (by decide) t w
      clear hc1 M hm
      go_wp2
      go_roundw
      case rel => exact ⟨j + 1, _, by omega, by go_num, by go_num, rfl⟩
      case measure => simp [Lib.intOf]; omega
    · obtain rfl : j = n := by omega
      go_wp2
      go_ret
      exact RetV.mk rfl
set_option maxHeartbeats 1000000 in
theorem laws_markComplex64S (base : Nat) (a : Option Addr) (cap : Nat) (xs : List (Nat × Nat)) (w : World) (hs : Oz w base (.slice a xs.length cap) xs) (hn : xs.length ≤ 256) :
    Calls Tryd.prog 17 #[.slice a xs.length cap, .int .i64 1] w (fun e w' => e = .returned (.int .i64 (1 + xs.length)) ∧ Oz w' base (.slice a xs.length cap) (marksZ 1 xs.length) ∧ Below base w w') := by
  have HS := Lib.hid hs
  clear hs
  go_enter Tryd.func17, Tryd.ntmps17
  go_wp2
  go_loopw [1, 5] (fun kk i wr => ∃ (j : Nat) (l : List (Nat × Nat)), j ≤ xs.length ∧ i = .int .i64 j ∧ kk = .int .i64 (1 + j) ∧ Hid (l.length = xs.length ∧ l.take j = (marksZ 1 xs.length).take j ∧ Oz wr base (.slice a xs.length cap) l ∧ Below base w wr)) (fun _ i _ => xs.length - (Lib.intOf i).toNat)
  case atStart => exact ⟨0, xs, by omega, rfl, by simp, rfl, by simp, HS.out, Below.refl _ _⟩
  case round =>
    obtain ⟨j, l, hj, rfl, rfl, hR⟩ := hrel
    by_cases hlt : j < xs.length
    · obtain ⟨r1, r2, r3, r4⟩ := hR.out
      obtain ⟨a2, cap2, ev, _, hg⟩ := r3.zs
      have hl0 : l ≠ [] := by intro q; rw [q] at r1; simp at r1; omega
      obtain ⟨g, rfl, hb⟩ := hg hl0
      injection ev with e1 e2 e3
      subst e1
      subst e3
      clear e2
      rw [← r1] at r3
      obtain ⟨⟨u, hu⟩, hf, _, hset⟩ := r3.set (j := j) (by omega) (mk1 (1 + (j : Int)))
      have M := mark_at (k0 := 1) (j := j) (by omega)
      have hm : isMark (floatOfInt .f64 (1 + (j : Int))) = true := M
      have hdn := fun w => (mark_one.2 ▸ run_dnC hm mark_one.1 w : (convert 49 47 (.complex .f64 (floatOfInt .f64 (1 + (j : Int))) 4607182418800017408)).run Tryd.prog w = .ok (.complex .f32 (narrowZ (floatOfInt .f64 (1 + (j : Int)))) 1065353216) w)
      have hst := run_storeZ (narrowZ (floatOfInt .f64 (1 + (j : Int)))) 1065353216 hu hf
      have HT := Lib.hid (And.intro r1 (And.intro r2 (And.intro hset (r4.setCell (p := ⟨g, j, none⟩) hb (cval (mk1 (1 + (j : Int))))))))
      clear r1 r2 r3 r4 hset hu hf hb hl0 hR hg HS M hm
      go_wp2
      go_roundw
      case rel =>
        obtain ⟨r1, r2, r3, r4⟩ := HT.out
        refine ⟨j + 1, l.set j (mk1 (1 + (j : Int))), by omega, by go_num, by go_num, by rw [List.length_set]; exact r1, ?_, by rw [r1] at r3; exact r3, r4⟩
        exact take_setZ l (marksZ 1 xs.length) j _ (by omega) (by rw [marksZ_len]; exact hlt) r2 (marksZ_get _ _ _ hlt).symm
      case measure => simp [Lib.intOf]; omega
    · obtain rfl : j = xs.length := by omega
      go_wp2
      go_ret
      obtain ⟨r1, r2, r3, r4⟩ := hR.out
      refine ⟨rfl, ?_, r4⟩
      have : l = marksZ 1 xs.length := by
        rw [List.take_of_length_le (by omega), List.take_of_length_le (by rw [marksZ_len]; omega)] at r2
        exact r2
      rw [← this]
      exact r3
end Go.Proofs.YtbadlhakedppiaaDoor
