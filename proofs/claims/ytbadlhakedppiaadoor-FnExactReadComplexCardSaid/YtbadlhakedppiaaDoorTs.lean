/- Copies of slices of 32-bit numbers, and comparing them: what the statements themselves do. -/
import Derived.Test.YtbadlhakedppiaaDoorSl
import Derived.Test.YtbadlhakedppiaaDoorWa
import Derived.Laws.MakeOwn
import Derived.Laws.Tables
import Derived.Lib.Hide
import Derived.Deep.QuietTactic
import Derived.BigQuiet
import Derived.Deep.RegionWith
namespace Go.Proofs.YtbadlhakedppiaaDoor
set_option maxRecDepth 100000
open Go.RowKit

/-- a block that holds these numbers and nothing else -/
def Rw (w : World) (b : Nat) (xs : List Nat) : Prop := w.heap[b]? = some (.cells (xs.map (Value.float .f32)).toArray 38 (0, 0))

theorem Rw.cell {w : World} {b : Nat} {xs : List Nat} (h : Rw w b xs) {j : Nat} (hj : j < xs.length) : w.cell? ⟨b, j, none⟩ = some (.float .f32 (xs.getD j 0)) := by
  unfold Rw at h
  simp [World.cell?, h, hj]
theorem Rw.thawed {w : World} {b : Nat} {xs : List Nat} (h : Rw w b xs) (j : Nat) : w.frozen? ⟨b, j, none⟩ = false := by
  unfold Rw at h
  simp [World.frozen?, h]
theorem Rw.lt {w : World} {b : Nat} {xs : List Nat} (h : Rw w b xs) : b < w.heap.size := by
  unfold Rw at h
  exact (Array.getElem?_eq_some_iff.1 h).1
theorem Rw.Fs {w : World} {b : Nat} {xs : List Nat} (h : Rw w b xs) : Fs w (some ⟨b, 0, none⟩) xs :=
  .inr ⟨b, 0, rfl, h.lt, fun j hj => by rw [Nat.zero_add]; exact h.cell hj⟩
theorem Rw.set {w : World} {b : Nat} {xs : List Nat} (h : Rw w b xs) (j x : Nat) : Rw (w.setCell ⟨b, j, none⟩ (.float .f32 x)) b (xs.set j x) := by
  unfold Rw at h ⊢
  rw [setCell_eq_setRow w b j _ _ (0, 0) _ h, setRow_heap w b _ _ _ (0, 0) h]
  simp [List.map_set]
theorem Rw.drewN {w : World} {b : Nat} {xs : List Nat} (h : Rw w b xs) (n : Nat) : Rw (w.drewN n) b xs := h
theorem Rw.below {w w' : World} {b : Nat} {xs : List Nat} (h : Rw w b xs) (hb : Below w.heap.size w w') : Rw w' b xs := by
  unfold Rw at h ⊢
  rw [hb.block b (Rw.lt h)]; exact h

theorem made_zeros (n : Nat) : madeCells #[Value.float .f32 0] n = ((List.replicate n 0).map (Value.float .f32)).toArray := by
  apply Array.ext
  · simp [madeCells]
  · intro i h1 h2
    simp [madeCells, Nat.mod_one]

theorem run_make32 (n : Nat) (hn : n ≤ 1048576) (w : World) : (Instr.makeSlice 22 (.int .i64 n) (.int .i64 n)).run Tryd.prog w = .ok (.slice (some ⟨w.heap.size, 0, none⟩) n n) (w.alloc (.cells ((List.replicate n 0).map (Value.float .f32)).toArray 38)) := by
  have hi : (Tryd.prog.info? 38).map (fun i => (i.zero, i.size, i.bytes)) = some (some (.float .f32 0), 1, 4) := by kernel_rfl
  obtain ⟨i, hi1, hi2⟩ := Option.map_eq_some_iff.1 hi
  injection hi2 with z1 hi3
  injection hi3 with z2 z3
  have h := run_make (P := Tryd.prog) w 22 38 i (.float .f32 0) Tryd.underlying22 hi1 z1 .i64 .i64 n n (by omega) (by omega) (by rw [z3]; omega) (by omega)
  rw [h, z2, Nat.mul_one]
  simp only [Int.toNat_natCast]
  rw [← made_zeros]
  rfl

theorem run_store32 {w : World} {p : Addr} {u : Value} (x : Nat) (hc : w.cell? p = some u) (hf : w.frozen? p = false) : (store p (.float .f32 x)).run Tryd.prog w = .ok () (w.setCell p (.float .f32 x)) := by
  rw [run_store Tryd.prog w p (.float .f32 x) .plain rfl, hc, hf]; rfl
theorem take_set {α : Type} (l xs : List α) (k : Nat) (x d : α) (hk : k < l.length) (hk2 : k < xs.length) (h : l.take k = xs.take k) (hx : x = xs.getD k d) : (l.set k x).take (k + 1) = xs.take (k + 1) := by
  rw [List.take_succ_eq_append_getElem (by simpa using hk), List.take_succ_eq_append_getElem hk2, List.take_set_of_le (Nat.le_refl _), h]
  simp only [List.getElem_set_self]
  rw [hx, List.getD_eq_getElem?_getD, List.getElem?_eq_getElem hk2]
  rfl
theorem Rw_new (w : World) (xs : List Nat) : Rw (w.alloc (.cells (xs.map (Value.float .f32)).toArray 38)) w.heap.size xs := heap_alloc_new w _
theorem Rw_zeros (w : World) (n : Nat) : Rw (w.alloc (.cells (Array.replicate n (Value.float .f32 0)) 38)) w.heap.size (List.replicate n 0) := by
  have h := Rw_new w (List.replicate n 0)
  simp only [List.map_replicate, List.toArray_replicate] at h
  exact h

def RetFresh (xs : List Nat) (w : World) (e : Ending) (w' : World) : Prop := ∃ b, e = .returned (.slice (some ⟨b, 0, none⟩) xs.length xs.length) ∧ w.heap.size ≤ b ∧ Rw w' b xs ∧ Below w.heap.size w w'

set_option maxHeartbeats 1000000 in
theorem laws_toFloat32S (a : Option Addr) (cap : Nat) (xs : List Nat) (w : World) (hs : Fs w a xs) (hl : xs.length ≤ 1048576) :
    Calls Tryd.prog 7 #[.slice a xs.length cap] w (RetFresh xs w) := by
  have HS := Lib.hid hs
  have hm := run_make32 xs.length hl
  clear hs
  go_enter Tryd.func7, Tryd.ntmps7
  go_wp2
  clear hm
  go_loopw [4] (fun i wr => ∃ (k : Nat) (l : List Nat), k ≤ xs.length ∧ i = .int .i64 k ∧ Hid (l.length = xs.length ∧ l.take k = xs.take k ∧ Rw wr w.heap.size l ∧ Below w.heap.size w wr)) (fun i _ => xs.length - (intOf i).toNat)
  case atStart => exact ⟨0, List.replicate xs.length 0, by omega, rfl, by simp, by simp, Rw_zeros _ _, (Below.refl _ _).alloc (Nat.le_refl _) _⟩
  case round =>
    obtain ⟨k, l, hk, rfl, hR⟩ := hrel
    by_cases hlt : k < xs.length
    · obtain ⟨b, off, rfl, hb, hc⟩ := (HS.out.below hR.out.2.2.2).at hlt
      have hcell := hc k hlt
      clear hc hb
      obtain ⟨v, hv⟩ : ∃ v, v = xs.getD k 0 := ⟨_, rfl⟩
      rw [← hv] at hcell
      have V := Lib.hid hv
      clear hv
      have hst := run_store32 v (hR.out.2.2.1.cell (j := k) (by rw [hR.out.1]; exact hlt)) (hR.out.2.2.1.thawed k)
      go_wp2
      go_roundw
      case rel =>
        obtain ⟨r1, r2, r3, r4⟩ := hR.out
        exact ⟨k + 1, l.set k v, by omega, by go_num, by rw [List.length_set]; exact r1, take_set l xs k v 0 (by omega) hlt r2 V.out, r3.set k v, r4.setCell (Nat.le_refl _) _⟩
      case measure => simp [intOf]; omega
    · go_wp2
      go_ret
      obtain ⟨r1, r2, r3, r4⟩ := hR.out
      refine ⟨_, rfl, Nat.le_refl _, ?_, r4⟩
      have : l = xs := by
        rw [List.take_of_length_le (by omega), List.take_of_length_le (by omega)] at r2
        exact r2
      rw [← this]
      exact r3

theorem run_up_num (x X : Nat) (c : cn .f32 x = some x) (e : cconv .f32 .f64 (some x) = some X) (w : World) : (convert 38 43 (.float .f32 x)).run Tryd.prog w = .ok (.float .f64 X) w := by
  obtain ⟨u, hs'⟩ : ∃ u, Tryd.prog.underlying 38 = some u := ⟨_, Tryd.underlying38⟩
  have hd := Tryd.underlying43
  simp only [cconv, Option.some.injEq] at e
  cases hx : FloatKind.f32.decode x with
  | nan g t => unfold cn at c; rw [hx] at c; cases c
  | infinity g =>
    rw [hx] at e
    dsimp only at e
    rw [← e]
    cases u <;> (simp [convert, run_underlying hs', run_underlying hd, Conv.floatToFloat, hx]; try rfl)
  | number g m ex =>
    rw [hx] at e
    dsimp only at e
    have hfit := fits_up (cn .f32 x)
    rw [c] at hfit
    have hfit := hfit g m ex hx
    rw [← e]
    cases u <;> (simp [convert, run_underlying hs', run_underlying hd, Conv.floatToFloat, hx, hfit]; try rfl)

/-- which not-a-number a world gives -/
def nanv (x : Nat) (w : World) : Nat := Question.cut (.nanConv .f64 x) (w.tape w.drawn (.nanConv .f64 x))
theorem nanv_eq (x y : Nat) (w w2 : World) : cn .f64 (nanv x w) = cn .f64 (nanv y w2) := (cut_nanConv .f64 x _).trans (cut_nanConv .f64 y _).symm
theorem run_up_nan (x : Nat) (c : cn .f32 x = none) (w : World) : (convert 38 43 (.float .f32 x)).run Tryd.prog w = .ok (.float .f64 (nanv x w)) w.drew := by
  obtain ⟨u, hs'⟩ : ∃ u, Tryd.prog.underlying 38 = some u := ⟨_, Tryd.underlying38⟩
  have hd := Tryd.underlying43
  cases hx : FloatKind.f32.decode x with
  | nan g t => cases u <;> (simp [convert, run_underlying hs', run_underlying hd, Conv.floatToFloat, hx, choose, Sem.run, Question.forced]; rfl)
  | infinity g => unfold cn at c; rw [hx] at c; cases c
  | number g m e => unfold cn at c; rw [hx] at c; cases c

/-- some draws later -/
def Dr (w w' : World) : Prop := ∃ n, w' = w.drewN n
theorem Dr.drewN {w w' : World} (h : Dr w w') (n : Nat) : Dr w (w'.drewN n) := by obtain ⟨m, e⟩ := h; exact ⟨m + n, by rw [e]; simp⟩
theorem Dr.drew {w w' : World} (h : Dr w w') : Dr w w'.drew := by obtain ⟨m, e⟩ := h; exact ⟨m + 1, by rw [e]; simp⟩

theorem RetV.quiet {v : Value} {w : World} {n : Nat} (e : Ending) (w' : World) (h : RetV v (w.drewN n) e w') : e = .returned v ∧ ∃ m, w' = (w.drewN n).drewN m := by
  obtain ⟨m, h1, h2⟩ := h
  exact ⟨h1, m, h2⟩

set_option maxHeartbeats 1000000 in
theorem laws_eqFloat32S (a b : Option Addr) (cap cap2 : Nat) (xs ys : List Nat) (w : World) (hs : Fs w a xs) (ht : Fs w b ys) (hl : xs.length ≤ 1048577) (hn : ys.length = xs.length) (hw : ∀ j, j < xs.length → xs.getD j 0 < 4294967296)
    (he : ∀ j, j < xs.length → cn .f32 (xs.getD j 0) = cn .f32 (ys.getD j 0)) :
    Calls Tryd.prog 9 #[.slice a xs.length cap, .slice b ys.length cap2] w (RetV (.bool true) w) := by
  have HS := Lib.hid hs
  have HT := Lib.hid ht
  have HE := Lib.hid he
  have HN := Lib.hid hn
  have HW := Lib.hid hw
  clear hs ht he hw
  rw [hn]
  clear hn
  go_enter Tryd.func9, Tryd.ntmps9
  go_wp2
  go_loopw [5] (fun i wr => ∃ k : Nat, k ≤ xs.length ∧ i = .int .i64 k ∧ Hid (Dr w wr)) (fun i _ => xs.length - (intOf i).toNat)
  case atStart => exact ⟨0, by omega, rfl, 0, rfl⟩
  case round =>
    obtain ⟨k, hk, rfl, hR⟩ := hrel
    by_cases hlt : k < xs.length
    · obtain ⟨b1, off1, rfl, _, hc1⟩ := HS.out.at hlt
      obtain ⟨b2, off2, rfl, _, hc2⟩ := HT.out.at (by rw [HN.out]; exact hlt)
      have h1 : wr.cell? ⟨b1, off1 + k, none⟩ = some (.float .f32 (xs.getD k 0)) := by
        obtain ⟨nq, e⟩ := hR.out
        rw [e]; exact hc1 k hlt
      have h2 : wr.cell? ⟨b2, off2 + k, none⟩ = some (.float .f32 (ys.getD k 0)) := by
        obtain ⟨nq, e⟩ := hR.out
        rw [e]; exact hc2 k (by rw [HN.out]; exact hlt)
      clear hc1 hc2
      have hxl := HW.out k hlt
      have hxy := HE.out k hlt
      generalize xs.getD k 0 = x at h1 hxl hxy
      generalize ys.getD k 0 = y at h2 hxy
      have hki : (k : Int) < (xs.length : Int) := by omega
      rcases cn_cases .f32 x with c | c
      · have cy : cn .f32 y = none := by rw [← hxy, c]
        have hux := run_up_nan x c
        have huy := run_up_nan y cy
        clear hxy c cy
        go_wp2
        go_region_with (go_at_call 23; refine (laws_sameFloat _ _ (nanv_eq _ _ _ _) _).mono ?_; rintro _ _ ⟨nd, rfl, rfl⟩)
        all_goals go_wp2
        all_goals go_roundw
        all_goals first
          | exact ⟨k + 1, by omega, by go_num, Dr.drewN hR.out _⟩
          | (simp [intOf]; omega)
      · have hyx : x = y := cn_some (k := .f32) (by rw [← hxy, c])
        subst hyx
        obtain ⟨X, eX, lX, cX, _⟩ := up_spec x hxl c
        have hup := run_up_num x X c eX
        clear hxy c eX cX
        go_wp2
        go_quiet ((go_at_call 23; refine Calls.quiet_of ((laws_sameFloat X X rfl _).mono RetV.quiet)))
        go_wp2
        go_roundw
        case rel =>
          obtain ⟨n0, e⟩ := hR.out
          exact ⟨k + 1, by omega, by go_num, n0 + nq, by rw [e]; simp⟩
        case measure => simp [intOf]; omega
    · go_wp2
      go_ret
      obtain ⟨nq, e⟩ := hR.out
      rw [e]
      exact RetV.mk rfl

end Go.Proofs.YtbadlhakedppiaaDoor
