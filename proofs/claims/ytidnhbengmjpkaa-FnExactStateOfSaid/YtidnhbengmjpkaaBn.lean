/- What BendLevels gives on both sides. -/
import Derived.Test.YtidnhbengmjpkaaBx
namespace Go.Proofs.Ytidnhbengmjpkaa
set_option maxRecDepth 100000
set_option linter.unusedVariables false
open Go.RowKit

/-- a level of the bent kind -/
def bnX (i : Nat) : Option Nat := cop .add .f32 (cn .f32 (floatOfInt .f32 (i : Int))) (cn .f32 1056964608)
def bnD (rate bend : Option Nat) (i : Nat) : Option Nat := cop .sub .f32 (cop .mul .f32 rate (bnX i)) (cop .mul .f32 (cop .mul .f32 bend (bnX i)) (bnX i))
def gtC (c d : Option Nat) : Bool := cord .f32 c d == some .gt
/-- how many there are -/
def bnN (rate bend : Option Nat) : Nat → Nat → Nat
  | 0, k => k
  | f + 1, k => if k = 0 ∨ gtC (bnD rate bend k) (bnD rate bend (k - 1)) = true then bnN rate bend f (k + 1) else k
theorem bnN_yes {rate bend : Option Nat} {k : Nat} (hk : k < 48) (h : k = 0 ∨ gtC (bnD rate bend k) (bnD rate bend (k - 1)) = true) : bnN rate bend (48 - k) k = bnN rate bend (48 - (k + 1)) (k + 1) := by
  obtain ⟨f, hf⟩ : ∃ f, 48 - k = f + 1 := ⟨48 - k - 1, by omega⟩
  rw [hf, show 48 - (k + 1) = f by omega]
  show (if _ then _ else _) = _
  rw [if_pos h]
theorem bnN_no {rate bend : Option Nat} {k : Nat} (hk : k < 48) (h : ¬ (k = 0 ∨ gtC (bnD rate bend k) (bnD rate bend (k - 1)) = true)) : bnN rate bend (48 - k) k = k := by
  obtain ⟨f, hf⟩ : ∃ f, 48 - k = f + 1 := ⟨48 - k - 1, by omega⟩
  rw [hf]
  show (if _ then _ else _) = _
  rw [if_neg h]
def bnL (rate bend : Option Nat) (n : Nat) : List (Option Nat) := (List.range n).map (bnD rate bend)
theorem bnL_snoc (rate bend : Option Nat) (n : Nat) : bnL rate bend (n + 1) = bnL rate bend n ++ [bnD rate bend n] := by unfold bnL; rw [List.range_succ, List.map_append]; rfl

/-- a checked list of numbers that are told up to which not-a-number -/
def RetCn (cs : List (Option Nat)) (w : World) (e : Ending) (w' : World) : Prop := ∃ v xs, e = .returned (ckV v (allFin xs)) ∧ Ow w' w.heap.size v xs ∧ xs.map (cn .f32) = cs ∧ Below w.heap.size w w'
theorem allFin_cs (xs : List Nat) : allFin xs = (xs.map (cn .f32)).all isFin := by unfold allFin; rw [List.all_map]; rfl
theorem fin_raw (xs : List Nat) (h : allFin xs = true) : xs = (xs.map (cn .f32)).map (fun c => c.getD 0) := by
  induction xs with
  | nil => rfl
  | cons x t ih =>
    unfold allFin at h ih
    simp only [List.all_cons, Bool.and_eq_true] at h
    simp only [List.map_cons]
    rw [← ih h.2]
    rcases cn_cases .f32 x with c | c
    · rw [c] at h; cases h.1
    · rw [c]; rfl
theorem RetCn.ow {cs : List (Option Nat)} {w : World} {e : Ending} {w' : World} (h : RetCn cs w e w') : RetOw (if cs.all isFin then cs.map (fun c => c.getD 0) else []) (cs.all isFin) w e w' := by
  obtain ⟨v, xs, rfl, hO, rfl, hB⟩ := h
  rw [← allFin_cs]
  cases hx : allFin xs with
  | true => exact ⟨v, rfl, by rw [← fin_raw xs hx]; exact hO, hB⟩
  | false => exact ⟨_, rfl, Ow_nil _ _, hB⟩
theorem Fs_two (w : World) (x y : Nat) (T : TypeId) : Fs (w.alloc (.cells #[.float .f32 x, .float .f32 y] T)) (some ⟨w.heap.size, 0, none⟩) [x, y] := by
  refine .inr ⟨w.heap.size, 0, rfl, by simp, fun j hj => ?_⟩
  have : j = 0 ∨ j = 1 := by simp at hj; omega
  rcases this with rfl | rfl <;> simp

set_option maxHeartbeats 4000000 in
theorem spec_BendLevels_good (rate bend : Nat) (hp : posC (cn .f32 rate) = true) (hq : posC (cn .f32 bend) = true) (w : World) :
    Calls Try.prog 26 #[.float .f32 rate, .float .f32 bend] w (RetCn (bnL (cn .f32 rate) (cn .f32 bend) (bnN (cn .f32 rate) (cn .f32 bend) 48 0)) w) := by
  have P := Lib.hid (And.intro hp hq)
  clear hp hq
  go_enter Try.func26, Try.ntmps26
  go_wp2_with (go_at_call 40; first | (refine (spec_l02Above rate _).mono ?_; rw [P.out.1]; rintro _ _ ⟨nd, rfl, rfl⟩) | (refine (spec_l02Above bend _).mono ?_; rw [P.out.2]; rintro _ _ ⟨nd, rfl, rfl⟩))
  go_loopw [6, 7, 8, 9] (fun v i x lv wr => ∃ (k : Nat) (xs : List Nat), k ≤ 48 ∧ i = .int .i64 k ∧ Hid (xs.length = k) ∧ Hid (Ow wr w.heap.size v xs) ∧ Hid (xs.map (cn .f32) = bnL (cn .f32 rate) (cn .f32 bend) k) ∧ Hid (bnN (cn .f32 rate) (cn .f32 bend) (48 - k) k = bnN (cn .f32 rate) (cn .f32 bend) 48 0) ∧ Hid (Below w.heap.size w wr)) (fun _ i _ _ _ => 48 - (intOf i).toNat)
  case atStart => exact ⟨0, [], by omega, rfl, rfl, Ow_empty _ _ (Nat.le_refl _), rfl, rfl, Below.alloc (below_drewN' (Below.refl _ _) _) (Nat.le_refl _) _⟩
  case round =>
    obtain ⟨k, xs, hk, rfl, hL, hO, hC, hN, hB⟩ := hrel
    by_cases hlt : k < 48
    · have hle : xs.length ≤ k := by have := hL.out; omega
      have hge : k ≤ xs.length := by have := hL.out; omega
      go_wp2
      with_reducible refine up_add _ _ _ _ _ ?_
      intro x nx hx
      have X := Lib.hid (show FE .f32 x (bnX k) from hx)
      clear hx
      go_wp2
      with_reducible refine up_mul _ _ _ _ _ ?_
      intro p np hp
      have Pp := Lib.hid (show FE .f32 p (cop .mul .f32 (cn .f32 rate) (bnX k)) from hp.cast (by rw [X.out.out]))
      clear hp
      go_wp2
      with_reducible refine up_mul _ _ _ _ _ ?_
      intro b nb hb
      have B := Lib.hid (show FE .f32 b (cop .mul .f32 (cn .f32 bend) (bnX k)) from hb.cast (by rw [X.out.out]))
      clear hb
      go_wp2
      with_reducible refine up_mul _ _ _ _ _ ?_
      intro s ns hs
      have Sq := Lib.hid (show FE .f32 s (cop .mul .f32 (cop .mul .f32 (cn .f32 bend) (bnX k)) (bnX k)) from hs.cast (by rw [X.out.out, B.out.out]))
      clear hs
      go_wp2
      with_reducible refine up_sub _ _ _ _ _ ?_
      intro r nr hr
      have R := Lib.hid (show FE .f32 r (bnD (cn .f32 rate) (cn .f32 bend) k) from hr.cast (by rw [Pp.out.out, Sq.out.out]; rfl))
      clear hr Pp B Sq X
      generalize hwq : World.drewN _ nr = wq
      have HO := Lib.hid (show Ow wq w.heap.size u6 xs by rw [← hwq]; exact (hO.out.drewN _).drewN _)
      have HB := Lib.hid (show Below w.heap.size w wq by rw [← hwq]; exact below_drewN' (below_drewN' hB.out _) _)
      clear hwq hO hB
      have hsz : w.heap.size ≤ wq.heap.size := HB.out.size
      obtain ⟨v2, w2, hrun, hO2, hG⟩ := run_app32 (wq.alloc (.cells #[.float .f32 r] 23)) w.heap.size u6 xs r wq.heap.size (HO.out.alloc _) (by simp [World.cell?_alloc_new]) (by simp; omega) (by omega) 22
      have HA := Lib.hid (And.intro hO2 hG)
      clear hO2 hG
      have HN1 := Lib.hid (show (k = 0 ∨ gtC (bnD (cn .f32 rate) (cn .f32 bend) k) (bnD (cn .f32 rate) (cn .f32 bend) (k - 1)) = true) → bnN (cn .f32 rate) (cn .f32 bend) (48 - (k + 1)) (k + 1) = bnN (cn .f32 rate) (cn .f32 bend) 48 0 from fun q => (bnN_yes hlt q).symm.trans hN.out)
      have HN2 := Lib.hid (show ¬ (k = 0 ∨ gtC (bnD (cn .f32 rate) (cn .f32 bend) k) (bnD (cn .f32 rate) (cn .f32 bend) (k - 1)) = true) → bnN (cn .f32 rate) (cn .f32 bend) 48 0 = k from fun q => hN.out.symm.trans (bnN_no hlt q))
      by_cases h0 : k = 0
      · have H0 := Lib.hid h0
        have h0' : ¬ 0 < k := by omega
        clear h0
        go_wp2_with (at_builtin; refine Lib.wpList_append_run _ rfl (.tmp 47) (.tmp 49) 22 22 rfl _ _ rfl rfl _ _ hrun ?_)
        go_roundw
        case rel => exact ⟨k + 1, xs ++ [r], by omega, by go_num, Lib.hid (by rw [List.length_append, hL.out]; rfl), HA.out.1, Lib.hid (by rw [List.map_append, hC.out, bnL_snoc, List.map_singleton, R.out.out]), HN1.out (.inl H0.out), (HB.out.alloc hsz _).grown HA.out.2 (by simp; omega) (fun j q => (World.ownsRow.lt HO.out j q).1)⟩
        case measure => simp [intOf]; omega
      · have h0' : 0 < k := by omega
        have H0 := Lib.hid h0
        clear h0
        obtain ⟨a2, cap2, hv2, hF, hg⟩ := HO.out.Fs
        obtain ⟨g, ha2, _⟩ := hg (by intro q; rw [q] at hge; simp at hge; omega)
        subst ha2
        have hcell : wq.cell? ⟨g, k - 1, none⟩ = some (.float .f32 (xs.getD (k - 1) 0)) := by
          obtain ⟨b1, off1, e, _, hc1⟩ := hF.at (k := k - 1) (by omega)
          cases e
          have := hc1 (k - 1) (by omega)
          rwa [Nat.zero_add] at this
        have hgt := Lib.hid (show cn .f32 (xs.getD (k - 1) 0) = bnD (cn .f32 rate) (cn .f32 bend) (k - 1) by
          have e := congrArg (fun l => l.getD (k - 1) none) hC.out
          simp only [List.getD_eq_getElem?_getD, List.getElem?_map, bnL] at e ⊢
          rw [List.getElem?_eq_getElem (show k - 1 < xs.length by omega), List.getElem?_range (by omega)] at e
          rw [List.getElem?_eq_getElem (show k - 1 < xs.length by omega)]
          exact e)
        generalize xs.getD (k - 1) 0 = y at hcell hgt
        have HV := Lib.hid hv2
        rw [hv2]
        rw [hv2] at hrun
        clear hv2 hF hg
        go_upto_if 46 with fail
        generalize hgb : (FloatKind.f32.format.order r y == some Ordering.gt) = gb
        have G := Lib.hid (show gtC (bnD (cn .f32 rate) (cn .f32 bend) k) (bnD (cn .f32 rate) (cn .f32 bend) (k - 1)) = gb by rw [← hgb, order_cord, R.out.out, hgt.out]; rfl)
        clear hgb
        cases gb with
        | true =>
          go_wp2_with (at_builtin; refine Lib.wpList_append_run _ rfl (.tmp 47) (.tmp 49) 22 22 rfl _ _ rfl rfl _ _ hrun ?_)
          go_roundw
          case rel => exact ⟨k + 1, xs ++ [r], by omega, by go_num, Lib.hid (by rw [List.length_append, hL.out]; rfl), HA.out.1, Lib.hid (by rw [List.map_append, hC.out, bnL_snoc, List.map_singleton, R.out.out]), HN1.out (.inr G.out), (HB.out.alloc hsz _).grown HA.out.2 (by simp; omega) (fun j q => (World.ownsRow.lt HO.out j q).1)⟩
          case measure => simp [intOf]; omega
        | false =>
          have hT := Lib.hid (show xs.map (cn .f32) = bnL (cn .f32 rate) (cn .f32 bend) (bnN (cn .f32 rate) (cn .f32 bend) 48 0) by rw [HN2.out (fun q => by rcases q with q | q; exact H0.out q; rw [G.out] at q; cases q)]; exact hC.out)
          have hO := Lib.hid (show Ow wq w.heap.size (.slice (some ⟨g, 0, none⟩) xs.length cap2) xs by rw [← HV.out]; exact HO.out)
          have hB := HB
          clear hrun
          have HFs := Lib.hid (Ow.Fs' hO.out)
          cases hx : allFin xs with
          | true =>
            have H := Lib.hid hx
            clear hx
            go_wp2_with (go_at_call 42; refine (spec_l02List (some ⟨g, 0, none⟩) cap2 xs _ HFs.out (by omega)).mono ?_; rw [H.out, ckV_true]; rintro _ _ ⟨nd, rfl, rfl⟩)
            go_ret2
            exact ⟨_, xs, by rw [H.out]; rfl, hO.out.drewN _, hT.out, below_drewN' hB.out _⟩
          | false =>
            have H := Lib.hid hx
            clear hx
            go_wp2_with (go_at_call 42; refine (spec_l02List (some ⟨g, 0, none⟩) cap2 xs _ HFs.out (by omega)).mono ?_; rw [H.out, ckV_false]; rintro _ _ ⟨nd, rfl, rfl⟩)
            go_ret2
            exact ⟨_, xs, by rw [H.out]; rfl, hO.out.drewN _, hT.out, below_drewN' hB.out _⟩
    · obtain rfl : k = 48 := by omega
      have hle : xs.length ≤ 48 := by have := hL.out; omega
      clear hL
      have hK := Lib.hid (show bnN (cn .f32 rate) (cn .f32 bend) 48 0 = 48 from hN.out.symm)
      have hT := Lib.hid (show xs.map (cn .f32) = bnL (cn .f32 rate) (cn .f32 bend) (bnN (cn .f32 rate) (cn .f32 bend) 48 0) by rw [hK.out]; exact hC.out)
      obtain ⟨a2, cap2, rfl, hF, _⟩ := hO.out.Fs
      have HFs := Lib.hid hF
      clear hF
      cases hx : allFin xs with
      | true =>
        have H := Lib.hid hx
        clear hx
        go_wp2_with (go_at_call 42; refine (spec_l02List a2 cap2 xs _ HFs.out (by omega)).mono ?_; rw [H.out, ckV_true]; rintro _ _ ⟨nd, rfl, rfl⟩)
        go_ret2
        exact ⟨_, xs, by rw [H.out]; rfl, hO.out.drewN _, hT.out, below_drewN' hB.out _⟩
      | false =>
        have H := Lib.hid hx
        clear hx
        go_wp2_with (go_at_call 42; refine (spec_l02List a2 cap2 xs _ HFs.out (by omega)).mono ?_; rw [H.out, ckV_false]; rintro _ _ ⟨nd, rfl, rfl⟩)
        go_ret2
        exact ⟨_, xs, by rw [H.out]; rfl, hO.out.drewN _, hT.out, below_drewN' hB.out _⟩

set_option maxHeartbeats 4000000 in
theorem impl_BendLevels_good (rate bend : Nat) (hp : posC (cn .f32 rate) = true) (hq : posC (cn .f32 bend) = true) (w : World) :
    Calls Try.prog 27 #[.float .f32 rate, .float .f32 bend] w (RetCn (bnL (cn .f32 rate) (cn .f32 bend) (bnN (cn .f32 rate) (cn .f32 bend) 48 0)) w) := by
  have P := Lib.hid (show allPos [rate, bend] = true by simp [allPos, hp, hq])
  clear hp hq
  go_enter Try.func27, Try.ntmps27
  go_wp2_with (go_at_call 43; refine (impl_arePositive (some ⟨w.heap.size, 0, none⟩) 2 [rate, bend] _ (Fs_two w rate bend _) (by simp)).mono ?_; rw [P.out]; rintro _ _ ⟨nd, rfl, rfl⟩)
  go_loopw [6, 7, 8, 9, 16] (fun v ii x lv i wr => ∃ (k : Nat) (xs : List Nat), k ≤ 48 ∧ i = .int .i64 k ∧ Hid (xs.length = k) ∧ Hid (Ow wr w.heap.size v xs) ∧ Hid (xs.map (cn .f32) = bnL (cn .f32 rate) (cn .f32 bend) k) ∧ Hid (bnN (cn .f32 rate) (cn .f32 bend) (48 - k) k = bnN (cn .f32 rate) (cn .f32 bend) 48 0) ∧ Hid (Below w.heap.size w wr)) (fun _ _ _ _ i _ => 48 - (intOf i).toNat)
  case atStart => exact ⟨0, [], by omega, rfl, rfl, Ow_empty2 _ _ _ (size_up w _ _) (by simp), rfl, rfl, (below_drewN' ((Below.refl _ _).alloc (Nat.le_refl _) _) _).alloc (size_up w _ _) _⟩
  case round =>
    obtain ⟨k, xs, hk, rfl, hL, hO, hC, hN, hB⟩ := hrel
    by_cases hlt : k < 48
    · have hle : xs.length ≤ k := by have := hL.out; omega
      have hge : k ≤ xs.length := by have := hL.out; omega
      go_wp2
      with_reducible refine up_add _ _ _ _ _ ?_
      intro x nx hx
      have X := Lib.hid (show FE .f32 x (bnX k) from hx)
      clear hx
      go_wp2
      with_reducible refine up_mul _ _ _ _ _ ?_
      intro p np hp
      have Pp := Lib.hid (show FE .f32 p (cop .mul .f32 (cn .f32 rate) (bnX k)) from hp.cast (by rw [X.out.out]))
      clear hp
      go_wp2
      with_reducible refine up_mul _ _ _ _ _ ?_
      intro b nb hb
      have B := Lib.hid (show FE .f32 b (cop .mul .f32 (cn .f32 bend) (bnX k)) from hb.cast (by rw [X.out.out]))
      clear hb
      go_wp2
      with_reducible refine up_mul _ _ _ _ _ ?_
      intro s ns hs
      have Sq := Lib.hid (show FE .f32 s (cop .mul .f32 (cop .mul .f32 (cn .f32 bend) (bnX k)) (bnX k)) from hs.cast (by rw [X.out.out, B.out.out]))
      clear hs
      go_wp2
      with_reducible refine up_sub _ _ _ _ _ ?_
      intro r nr hr
      have R := Lib.hid (show FE .f32 r (bnD (cn .f32 rate) (cn .f32 bend) k) from hr.cast (by rw [Pp.out.out, Sq.out.out]; rfl))
      clear hr Pp B Sq X
      generalize hwq : World.drewN _ nr = wq
      have HO := Lib.hid (show Ow wq w.heap.size u6 xs by rw [← hwq]; exact (hO.out.drewN _).drewN _)
      have HB := Lib.hid (show Below w.heap.size w wq by rw [← hwq]; exact below_drewN' (below_drewN' hB.out _) _)
      clear hwq hO hB
      have hsz : w.heap.size ≤ wq.heap.size := HB.out.size
      obtain ⟨v2, w2, hrun, hO2, hG⟩ := run_app32 (wq.alloc (.cells #[.float .f32 r] 23)) w.heap.size u6 xs r wq.heap.size (HO.out.alloc _) (by simp [World.cell?_alloc_new]) (by simp; omega) (by omega) 22
      have HA := Lib.hid (And.intro hO2 hG)
      clear hO2 hG
      have HN1 := Lib.hid (show (k = 0 ∨ gtC (bnD (cn .f32 rate) (cn .f32 bend) k) (bnD (cn .f32 rate) (cn .f32 bend) (k - 1)) = true) → bnN (cn .f32 rate) (cn .f32 bend) (48 - (k + 1)) (k + 1) = bnN (cn .f32 rate) (cn .f32 bend) 48 0 from fun q => (bnN_yes hlt q).symm.trans hN.out)
      have HN2 := Lib.hid (show ¬ (k = 0 ∨ gtC (bnD (cn .f32 rate) (cn .f32 bend) k) (bnD (cn .f32 rate) (cn .f32 bend) (k - 1)) = true) → bnN (cn .f32 rate) (cn .f32 bend) 48 0 = k from fun q => hN.out.symm.trans (bnN_no hlt q))
      by_cases h0 : k = 0
      · have H0 := Lib.hid h0
        have h0' : ¬ 0 < k := by omega
        clear h0
        go_wp2_with (at_builtin; refine Lib.wpList_append_run _ rfl (.tmp 43) (.tmp 45) 22 22 rfl _ _ rfl rfl _ _ hrun ?_)
        go_roundw
        case rel => exact ⟨k + 1, xs ++ [r], by omega, by go_num, Lib.hid (by rw [List.length_append, hL.out]; rfl), HA.out.1, Lib.hid (by rw [List.map_append, hC.out, bnL_snoc, List.map_singleton, R.out.out]), HN1.out (.inl H0.out), (HB.out.alloc hsz _).grown HA.out.2 (by simp; omega) (fun j q => (World.ownsRow.lt HO.out j q).1)⟩
        case measure => simp [intOf]; omega
      · have h0' : 0 < k := by omega
        have H0 := Lib.hid h0
        clear h0
        obtain ⟨a2, cap2, hv2, hF, hg⟩ := HO.out.Fs
        obtain ⟨g, ha2, _⟩ := hg (by intro q; rw [q] at hge; simp at hge; omega)
        subst ha2
        have hcell : wq.cell? ⟨g, k - 1, none⟩ = some (.float .f32 (xs.getD (k - 1) 0)) := by
          obtain ⟨b1, off1, e, _, hc1⟩ := hF.at (k := k - 1) (by omega)
          cases e
          have := hc1 (k - 1) (by omega)
          rwa [Nat.zero_add] at this
        have hgt := Lib.hid (show cn .f32 (xs.getD (k - 1) 0) = bnD (cn .f32 rate) (cn .f32 bend) (k - 1) by
          have e := congrArg (fun l => l.getD (k - 1) none) hC.out
          simp only [List.getD_eq_getElem?_getD, List.getElem?_map, bnL] at e ⊢
          rw [List.getElem?_eq_getElem (show k - 1 < xs.length by omega), List.getElem?_range (by omega)] at e
          rw [List.getElem?_eq_getElem (show k - 1 < xs.length by omega)]
          exact e)
        generalize xs.getD (k - 1) 0 = y at hcell hgt
        have HV := Lib.hid hv2
        rw [hv2]
        rw [hv2] at hrun
        clear hv2 hF hg
        go_upto_if 42 with fail
        generalize hgb : (FloatKind.f32.format.order r y == some Ordering.gt) = gb
        have G := Lib.hid (show gtC (bnD (cn .f32 rate) (cn .f32 bend) k) (bnD (cn .f32 rate) (cn .f32 bend) (k - 1)) = gb by rw [← hgb, order_cord, R.out.out, hgt.out]; rfl)
        clear hgb
        cases gb with
        | true =>
          go_wp2_with (at_builtin; refine Lib.wpList_append_run _ rfl (.tmp 43) (.tmp 45) 22 22 rfl _ _ rfl rfl _ _ hrun ?_)
          go_roundw
          case rel => exact ⟨k + 1, xs ++ [r], by omega, by go_num, Lib.hid (by rw [List.length_append, hL.out]; rfl), HA.out.1, Lib.hid (by rw [List.map_append, hC.out, bnL_snoc, List.map_singleton, R.out.out]), HN1.out (.inr G.out), (HB.out.alloc hsz _).grown HA.out.2 (by simp; omega) (fun j q => (World.ownsRow.lt HO.out j q).1)⟩
          case measure => simp [intOf]; omega
        | false =>
          have hT := Lib.hid (show xs.map (cn .f32) = bnL (cn .f32 rate) (cn .f32 bend) (bnN (cn .f32 rate) (cn .f32 bend) 48 0) by rw [HN2.out (fun q => by rcases q with q | q; exact H0.out q; rw [G.out] at q; cases q)]; exact hC.out)
          have hO := Lib.hid (show Ow wq w.heap.size (.slice (some ⟨g, 0, none⟩) xs.length cap2) xs by rw [← HV.out]; exact HO.out)
          have hB := HB
          clear hrun
          have HFs := Lib.hid (Ow.Fs' hO.out)
          cases hx : allFin xs with
          | true =>
            have H := Lib.hid hx
            clear hx
            go_wp2_with (go_at_call 45; refine (impl_checkedNumbers (some ⟨g, 0, none⟩) cap2 xs _ HFs.out (by omega)).mono ?_; rw [H.out, ckV_true]; rintro _ _ ⟨nd, rfl, rfl⟩)
            go_ret2
            exact ⟨_, xs, by rw [H.out]; rfl, hO.out.drewN _, hT.out, below_drewN' hB.out _⟩
          | false =>
            have H := Lib.hid hx
            clear hx
            go_wp2_with (go_at_call 45; refine (impl_checkedNumbers (some ⟨g, 0, none⟩) cap2 xs _ HFs.out (by omega)).mono ?_; rw [H.out, ckV_false]; rintro _ _ ⟨nd, rfl, rfl⟩)
            go_ret2
            exact ⟨_, xs, by rw [H.out]; rfl, hO.out.drewN _, hT.out, below_drewN' hB.out _⟩
    · obtain rfl : k = 48 := by omega
      have hle : xs.length ≤ 48 := by have := hL.out; omega
      clear hL
      have hK := Lib.hid (show bnN (cn .f32 rate) (cn .f32 bend) 48 0 = 48 from hN.out.symm)
      have hT := Lib.hid (show xs.map (cn .f32) = bnL (cn .f32 rate) (cn .f32 bend) (bnN (cn .f32 rate) (cn .f32 bend) 48 0) by rw [hK.out]; exact hC.out)
      obtain ⟨a2, cap2, rfl, hF, _⟩ := hO.out.Fs
      have HFs := Lib.hid hF
      clear hF
      cases hx : allFin xs with
      | true =>
        have H := Lib.hid hx
        clear hx
        go_wp2_with (go_at_call 45; refine (impl_checkedNumbers a2 cap2 xs _ HFs.out (by omega)).mono ?_; rw [H.out, ckV_true]; rintro _ _ ⟨nd, rfl, rfl⟩)
        go_ret2
        exact ⟨_, xs, by rw [H.out]; rfl, hO.out.drewN _, hT.out, below_drewN' hB.out _⟩
      | false =>
        have H := Lib.hid hx
        clear hx
        go_wp2_with (go_at_call 45; refine (impl_checkedNumbers a2 cap2 xs _ HFs.out (by omega)).mono ?_; rw [H.out, ckV_false]; rintro _ _ ⟨nd, rfl, rfl⟩)
        go_ret2
        exact ⟨_, xs, by rw [H.out]; rfl, hO.out.drewN _, hT.out, below_drewN' hB.out _⟩

theorem bad_both {p q : Bool} (h : (p && q) = false) : p = false ∨ (p = true ∧ q = false) := by cases p <;> cases q <;> simp at h ⊢
set_option maxHeartbeats 1000000 in
theorem spec_BendLevels_bad (rate bend : Nat) (hb : (posC (cn .f32 rate) && posC (cn .f32 bend)) = false) (w : World) :
    Calls Try.prog 26 #[.float .f32 rate, .float .f32 bend] w (RetV (.tuple #[.slice none 0 0, .bool false]) w) := by
  rcases bad_both hb with hp | ⟨hp, hq⟩
  · have P := Lib.hid hp
    clear hp hb
    go_enter Try.func26, Try.ntmps26
    go_wp2_with (go_at_call 40; refine (spec_l02Above rate _).mono ?_; rw [P.out]; rintro _ _ ⟨nd, rfl, rfl⟩)
    go_ret2
    exact RetV.mk rfl
  · have P := Lib.hid (And.intro hp hq)
    clear hp hq hb
    go_enter Try.func26, Try.ntmps26
    go_wp2_with (go_at_call 40; first | (refine (spec_l02Above rate _).mono ?_; rw [P.out.1]; rintro _ _ ⟨nd, rfl, rfl⟩) | (refine (spec_l02Above bend _).mono ?_; rw [P.out.2]; rintro _ _ ⟨nd, rfl, rfl⟩))
    go_ret2
    exact RetV.mk rfl
set_option maxHeartbeats 1000000 in
theorem impl_BendLevels_bad (rate bend : Nat) (hb : (posC (cn .f32 rate) && posC (cn .f32 bend)) = false) (w : World) :
    Calls Try.prog 27 #[.float .f32 rate, .float .f32 bend] w (RetVB (.tuple #[.slice none 0 0, .bool false]) w) := by
  have P := Lib.hid (show allPos [rate, bend] = false by simpa [allPos] using hb)
  clear hb
  go_enter Try.func27, Try.ntmps27
  go_wp2_with (go_at_call 43; refine (impl_arePositive (some ⟨w.heap.size, 0, none⟩) 2 [rate, bend] _ (Fs_two w rate bend _) (by simp)).mono ?_; rw [P.out]; rintro _ _ ⟨nd, rfl, rfl⟩)
  go_ret2
  exact ⟨rfl, below_drewN' ((Below.refl _ _).alloc (Nat.le_refl _) _) _⟩

theorem bnN_le (rate bend : Option Nat) : ∀ (f k : Nat), bnN rate bend f k ≤ f + k := by
  intro f
  induction f with
  | zero => intro k; show k ≤ _; omega
  | succ f ih =>
    intro k
    show (if _ then _ else _) ≤ _
    split
    · have := ih (k + 1); omega
    · omega
theorem cop_lt {op : BinOp} {c d : Option Nat} (x : Nat) (h : cop op .f32 c d = some x) : x < 4294967296 := by
  cases c with
  | none => cases h
  | some a =>
    cases d with
    | none => cases h
    | some b =>
      have := wf_sign (floatBits_wf (op := op) (k := .f32) (x := a) (y := b) h)
      rw [f32_sign] at this
      omega
theorem bnL_mem (rate bend : Option Nat) (n : Nat) : ∀ x ∈ (bnL rate bend n).map (fun c => c.getD 0), x < 4294967296 := by
  intro x hx
  unfold bnL at hx
  rw [List.map_map] at hx
  obtain ⟨i, _, rfl⟩ := List.mem_map.1 hx
  show (bnD rate bend i).getD 0 < _
  cases h : bnD rate bend i with
  | none => simp
  | some v => exact cop_lt v h

theorem bends (rate bend : Nat) (hr : rate < 4294967296) (hb : bend < 4294967296) : ∃ ys b, (∀ w, Calls Try.prog 26 #[.float .f32 rate, .float .f32 bend] w (RetOw ys b w)) ∧ (∀ w, Calls Try.prog 27 #[.float .f32 rate, .float .f32 bend] w (RetOw ys b w)) ∧
    ys.length ≤ 48 ∧ ∀ j, j < ys.length → ys.getD j 0 < 4294967296 := by
  cases hg : (posC (cn .f32 rate) && posC (cn .f32 bend)) with
  | false => exact ⟨[], false, fun w => (spec_BendLevels_bad rate bend hg w).mono fun _ _ h => h.b.ow, fun w => (impl_BendLevels_bad rate bend hg w).mono fun _ _ h => h.ow, by simp, by simp⟩
  | true =>
    simp only [Bool.and_eq_true] at hg
    have hl := bnN_le (cn .f32 rate) (cn .f32 bend) 48 0
    have hw := few_words (L := (bnL (cn .f32 rate) (cn .f32 bend) (bnN (cn .f32 rate) (cn .f32 bend) 48 0)).map (fun c => c.getD 0)) (n := bnN (cn .f32 rate) (cn .f32 bend) 48 0) (by unfold bnL; simp) (by omega) (bnL_mem _ _ _) ((bnL (cn .f32 rate) (cn .f32 bend) (bnN (cn .f32 rate) (cn .f32 bend) 48 0)).all isFin)
    exact ⟨_, _, fun w => (spec_BendLevels_good rate bend hg.1 hg.2 w).mono fun _ _ h => h.ow, fun w => (impl_BendLevels_good rate bend hg.1 hg.2 w).mono fun _ _ h => h.ow, hw.1, hw.2⟩

set_option maxHeartbeats 4000000 in
theorem law_BendLevels (rate bend : Nat) (hr : rate < 4294967296) (hb : bend < 4294967296) (w : World) :
    Calls Try.prog 8 #[.float .f32 rate, .float .f32 bend] w (RetVB (.bool true) w) := by
  obtain ⟨ys, b, hS, hI, hl, hw⟩ := bends rate bend hr hb
  have HS := Lib.hid hS
  have HI := Lib.hid hI
  have HW := Lib.hid hw
  clear hS hI hw
  go_enter Try.func8, Try.ntmps8
  go_wp2_with fail
  refine (HS.out _).mono ?_
  rintro _ w1 ⟨v1, rfl, hO1, hB1⟩
  obtain ⟨a1, cap1, rfl, hF1, _⟩ := hO1.Fs
  have H1 := Lib.hid (And.intro hF1 hB1)
  clear hO1 hF1 hB1
  go_wp2_with fail
  refine (HI.out _).mono ?_
  rintro _ w2 ⟨v2, rfl, hO2, hB2⟩
  obtain ⟨a2, cap2, rfl, hF2, _⟩ := hO2.Fs
  have H2 := Lib.hid (And.intro hO2 hB2)
  clear hO2 hF2 hB2
  go_wp2_with fail
  refine (laws_eqFloat32S a2 a1 cap2 cap1 ys ys _ (Ow.Fs' H2.out.1) (H1.out.1.below H2.out.2) (by omega) rfl HW.out (fun _ _ => rfl)).mono ?_
  rintro _ _ ⟨n3, rfl, rfl⟩
  go_wp2_with fail
  refine (laws_markFloat32S w1.heap.size a2 cap2 1 ys _ (Ow.drewN H2.out.1 _) (by omega) (by omega) (by omega)).mono ?_
  rintro _ w3 ⟨rfl, hO3, hB3⟩
  have H3 := Lib.hid (And.intro hO3 ((below_drewN' H2.out.2 n3).trans hB3))
  clear hO3 hB3
  go_wp2_with fail
  refine (laws_heldFloat32S a2 cap2 1 ys.length _ (Ow.Fs' H3.out.1) (by omega) (by omega) (by omega)).mono ?_
  rintro _ _ ⟨n4, rfl, rfl⟩
  go_wp2_with fail
  refine (HI.out _).mono ?_
  rintro _ w4 ⟨v4, rfl, hO4, hB4⟩
  obtain ⟨a4, cap4, rfl, hF4, _⟩ := hO4.Fs
  have H4 := Lib.hid (And.intro hF4 hB4)
  clear hO4 hF4 hB4
  go_wp2_with fail
  refine (laws_eqFloat32S a4 a1 cap4 cap1 ys ys _ H4.out.1 (((H1.out.1.below H3.out.2).drewN n4).below H4.out.2) (by omega) rfl HW.out (fun _ _ => rfl)).mono ?_
  rintro _ _ ⟨n5, rfl, rfl⟩
  go_wp2_with fail
  refine (laws_heldFloat32S a2 cap2 1 ys.length _ ((((Ow.Fs' H3.out.1).drewN n4).below H4.out.2).drewN n5) (by omega) (by omega) (by omega)).mono ?_
  rintro _ _ ⟨n6, rfl, rfl⟩
  go_wp2
  go_ret
  exact ⟨rfl, below_drewN' (H1.out.2.trans ((H3.out.2.mono H1.out.2.size).trans ((below_drewN' (Below.refl _ _) n4).trans (H4.out.2.mono (Nat.le_trans H1.out.2.size H3.out.2.size))))) _⟩
end Go.Proofs.Ytidnhbengmjpkaa
