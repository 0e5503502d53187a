/- Slices of 32-bit numbers that are only read; whether all of some numbers are finite, or greater than 0. -/
import Derived.Test.YtkemghecglbleaaGreatDoorYa
import Derived.Lib.Hide
namespace Go.Proofs.YtkemghecglbleaaGreatDoor
set_option maxRecDepth 100000
open Go.RowKit

/-- a slice that reads as these numbers -/
def Fs (w : World) (a : Option Addr) (xs : List Nat) : Prop := xs = [] ∨ ∃ b off, a = some ⟨b, off, none⟩ ∧ b < w.heap.size ∧ ∀ j, j < xs.length → w.cell? ⟨b, off + j, none⟩ = some (.float .f32 (xs.getD j 0))

theorem Fs.below {w w' : World} {a : Option Addr} {xs : List Nat} (h : Fs w a xs) (hb : Below w.heap.size w w') : Fs w' a xs := by
  rcases h with h | ⟨b, off, rfl, h1, h2⟩
  · exact .inl h
  · exact .inr ⟨b, off, rfl, Nat.lt_of_lt_of_le h1 hb.size, fun j hj => (hb.cell (p := ⟨b, off + j, none⟩) h1).trans (h2 j hj)⟩
theorem Fs.drewN {w : World} {a : Option Addr} {xs : List Nat} (h : Fs w a xs) (n : Nat) : Fs (w.drewN n) a xs := h
theorem Fs.at {w : World} {a : Option Addr} {xs : List Nat} (h : Fs w a xs) {k : Nat} (hk : k < xs.length) : ∃ b off, a = some ⟨b, off, none⟩ ∧ b < w.heap.size ∧ ∀ j, j < xs.length → w.cell? ⟨b, off + j, none⟩ = some (.float .f32 (xs.getD j 0)) := by
  rcases h with h | h
  · subst h; simp at hk
  · exact h

theorem below_drewN' {B : Nat} {a w : World} (h : Below B a w) (n : Nat) : Below B a (w.drewN n) := h.trans ⟨rfl, rfl, rfl, Nat.le_refl _, fun _ _ => rfl⟩

/-- what a call hands back that may lay blocks of its own -/
def RetVB (v : Value) (w : World) (e : Ending) (w' : World) : Prop := e = .returned v ∧ Below w.heap.size w w'
theorem RetV.b {v : Value} {w : World} {e : Ending} {w' : World} (h : RetV v w e w') : RetVB v w e w' := by
  obtain ⟨n, rfl, rfl⟩ := h
  exact ⟨rfl, below_drewN' (Below.refl _ _) n⟩

def allFin (xs : List Nat) : Bool := xs.all fun x => isFin (cn .f32 x)
theorem take_snocN (xs : List Nat) (k : Nat) (h : k < xs.length) : xs.take (k + 1) = xs.take k ++ [xs.getD k 0] := by
  rw [List.take_succ_eq_append_getElem h, List.getD_eq_getElem?_getD, List.getElem?_eq_getElem h]; rfl
theorem all_snoc (p : Nat → Bool) (xs : List Nat) (k : Nat) (h : k < xs.length) : (xs.take (k + 1)).all p = ((xs.take k).all p && p (xs.getD k 0)) := by
  rw [take_snocN xs k h, List.all_append]; simp
theorem all_bad (p : Nat → Bool) (xs : List Nat) (k : Nat) (h : k < xs.length) (hp : p (xs.getD k 0) = false) : xs.all p = false := by
  rw [Bool.eq_false_iff]
  intro ha
  have := List.all_eq_true.1 ha (xs.getD k 0) (by
    rw [List.getD_eq_getElem?_getD, List.getElem?_eq_getElem h]; exact List.getElem_mem h)
  rw [hp] at this; cases this

/-- an index that tells whether one is bad -/
def RetIdx (b : Bool) (w : World) (e : Ending) (w' : World) : Prop := ∃ (i : Int) (n : Nat), e = .returned (.int .i64 i) ∧ (0 ≤ i ↔ b = true) ∧ w' = w.drewN n

set_option maxHeartbeats 400000 in
theorem impl_areFinite_1 (x : Nat) (w : World) : Calls Tryz.prog 65 #[.float .f32 x] w (RetV (.bool (!isFin (cn .f32 x))) w) := by
  go_enter Tryz.func65, Tryz.ntmps65
  go_wp2_with (go_at_call 66; refine (impl_IsFinite _ _).mono ?_; rintro _ _ ⟨nd, rfl, rfl⟩)
  go_ret
  exact RetV.mk rfl

set_option maxHeartbeats 1000000 in
theorem IndexFunc_fin (a : Option Addr) (cap : Nat) (xs : List Nat) (w : World) (hs : Fs w a xs) (hl : xs.length ≤ 1048577) :
    Calls Tryz.prog 78 #[.slice a xs.length cap, .func (.func 65) #[] #[]] w (RetIdx (!allFin xs) w) := by
  have HS := Lib.hid hs
  clear hs
  go_enter Tryz.func78, Tryz.ntmps78
  go_wp2
  go_loopw [8] (fun i wr => ∃ k nq : Nat, k ≤ xs.length ∧ i = .int .i64 k ∧ Hid ((xs.take k).all (fun x => isFin (cn .f32 x)) = true) ∧ wr = w.drewN nq) (fun i _ => xs.length - (intOf i).toNat)
  case atStart => exact ⟨0, 0, Nat.zero_le _, rfl, rfl, rfl⟩
  case round =>
    obtain ⟨k, nq, hk, rfl, ha, rfl⟩ := hrel
    by_cases hlt : k < xs.length
    · obtain ⟨b, off, rfl, hb, hc⟩ := HS.out.at hlt
      have hcell := hc k hlt
      clear hc
      obtain ⟨v, hv⟩ : ∃ v, v = xs.getD k 0 := ⟨_, rfl⟩
      rw [← hv] at hcell
      have V := Lib.hid hv
      clear hv
      cases hp : isFin (cn .f32 v) with
      | true =>
        have P := Lib.hid hp
        go_wp2_with (go_at_call 65; refine (impl_areFinite_1 _ _).mono ?_; rw [P.out]; rintro _ _ ⟨nd, rfl, rfl⟩)
        go_roundw
        case rel => exact ⟨k + 1, _, by omega, by go_num, by show _ = true; rw [all_snoc _ _ _ hlt, ha.out, ← V.out, P.out]; rfl, rfl⟩
        case measure => simp [intOf]; omega
      | false =>
        have P := Lib.hid hp
        go_wp2_with (go_at_call 65; refine (impl_areFinite_1 _ _).mono ?_; rw [P.out]; rintro _ _ ⟨nd, rfl, rfl⟩)
        go_ret
        exact ⟨k, _, rfl, by rw [allFin, all_bad (fun x => isFin (cn .f32 x)) xs k hlt (by rw [← V.out]; exact P.out)]; simp, rfl⟩
    · have hall := Lib.hid (show xs.take k = xs from List.take_of_length_le (by omega))
      go_wp2
      go_ret
      refine ⟨-1, _, rfl, ?_, rfl⟩
      have := ha.out
      rw [hall.out] at this
      rw [allFin, this]
      simp

set_option maxHeartbeats 400000 in
theorem ContainsFunc_fin (a : Option Addr) (cap : Nat) (xs : List Nat) (w : World) (hs : Fs w a xs) (hl : xs.length ≤ 1048577) :
    Calls Tryz.prog 64 #[.slice a xs.length cap, .func (.func 65) #[] #[]] w (RetV (.bool (!allFin xs)) w) := by
  have HS := Lib.hid hs
  clear hs
  go_enter Tryz.func64, Tryz.ntmps64
  go_wp2_with (go_at_call 78; refine (IndexFunc_fin a cap xs _ HS.out hl).mono ?_; rintro _ _ ⟨i, nd, rfl, hi, rfl⟩; have HI := Lib.hid hi; clear hi)
  go_ret
  refine RetV.mk ?_
  show Value.bool (decide (0 ≤ i)) = Value.bool (!allFin xs)
  congr 1
  rw [Bool.eq_iff_iff, ← HI.out]; simp

set_option maxHeartbeats 400000 in
theorem impl_areFinite (a : Option Addr) (cap : Nat) (xs : List Nat) (w : World) (hs : Fs w a xs) (hl : xs.length ≤ 1048577) :
    Calls Tryz.prog 49 #[.slice a xs.length cap] w (RetV (.bool (allFin xs)) w) := by
  have HS := Lib.hid hs
  clear hs
  go_enter Tryz.func49, Tryz.ntmps49
  go_wp2_with (go_at_call 64; refine (ContainsFunc_fin a cap xs _ HS.out hl).mono ?_; rintro _ _ ⟨nd, rfl, rfl⟩)
  go_ret
  exact RetV.mk rfl

/-- finite, and greater than 0 -/
def posC (c : Option Nat) : Bool := isFin c && (cord .f32 c (some 0) == some .gt)
def allPos (xs : List Nat) : Bool := xs.all fun x => posC (cn .f32 x)
theorem cord_total (k : FloatKind) (a b : Nat) (ha : cn k a = some a) (hb : cn k b = some b) : ∃ o, k.format.order a b = some o := by
  unfold Ieee.Format.order
  have h1 : (k.format.read a).isNaN = false := by
    unfold cn at ha; split at ha
    · cases ha
    · rename_i h; simpa [FloatKind.decode] using h
  have h2 : (k.format.read b).isNaN = false := by
    unfold cn at hb; split at hb
    · cases hb
    · rename_i h; simpa [FloatKind.decode] using h
  generalize k.format.read a = x at h1
  generalize k.format.read b = y at h2
  cases x <;> cases y <;> simp [Ieee.Datum.isNaN] at h1 h2 <;> simp [Ieee.Datum.order]

theorem not_leq {x : Nat} (hf : isFin (cn .f32 x) = true) : (!(FloatKind.f32.format.order x 0 == some .lt || FloatKind.f32.format.order x 0 == some .eq)) = (cord .f32 (cn .f32 x) (some 0) == some .gt) := by
  rcases cn_cases .f32 x with c | c
  · rw [c] at hf; cases hf
  · rw [c]
    obtain ⟨o, ho⟩ := cord_total .f32 x 0 c cn_zero32
    have : cord .f32 (some x) (some 0) = some o := ho
    rw [this, ho]
    cases o <;> rfl

end Go.Proofs.YtkemghecglbleaaGreatDoor
