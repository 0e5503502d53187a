/- slices.Concat of two lists of numbers; a region whose callees lay blocks of their own, walked once. -/
import Derived.Test.YtkdojogjalkddaaTz
import Derived.Lib.AppendZerosOnto
import Derived.BigQuiet
namespace Go.Proofs.Ytkdojogjalkddaa
set_option maxRecDepth 100000
set_option linter.unusedVariables false
open Go.RowKit

/-- a world behind w, all that lay below B as it was -/
structure Bw (B : Nat) (w : World) where
  wd : World
  h : Below B w wd
instance (B : Nat) (w : World) : Inhabited (Bw B w) := ⟨⟨w, Below.refl B w⟩⟩
theorem wp_region_below {P : Program} (B : Nat) {id : Nat} {Q : Exit → Act → World → Prop} {a : Act} {w : World} {l : List Oper} (hm : P.follows .mixedOrders = true) (hB : Region.lexB .any l.toArray = true)
    (h : wpQuiet P l.toArray (fun w' => ∃ p : Bw B w, w' = p.wd) (fun a' => ∀ w', (∃ p : Bw B w, w' = p.wd) → Q .normal a' w') l a) : (Code.region id l.toArray true).wp P Q a w :=
  wp_region_quiet (C := fun w' => ∃ p : Bw B w, w' = p.wd) hm hB ⟨⟨w.drew, below_drewN' (Below.refl _ _) 1⟩, rfl⟩ (by simpa using h)
theorem Calls.bw {P : Program} {f : FuncId} {args : Array Value} {B : Nat} {w : World} {p : Bw B w} {v : Value} (hB : B ≤ w.heap.size) (h : Calls P f args p.wd (RetVB v p.wd)) :
    Calls P f args p.wd fun e w'' => e = .returned v ∧ ∃ q : Bw B w, w'' = q.wd :=
  h.mono fun _ w'' ⟨he, hb⟩ => ⟨he, ⟨w'', p.h.trans (hb.mono (Nat.le_trans hB p.h.size))⟩, rfl⟩

/-- a fresh row without a number yet -/
theorem Ow_room (w : World) (n cap : Nat) (hc : cap ≤ maxLen) (hn : n ≤ cap) : Ow (w.drew.alloc (.cells ((#[] : Array Value) ++ Builtin.zeroCells (Value.float .f32 0).cells n ++ Builtin.zeroCells (Value.float .f32 0).cells (cap - n)) 32)) w.heap.size (.slice (some ⟨w.heap.size, 0, none⟩) 0 cap) [] := by
  refine ⟨rfl, .inr ⟨w.heap.size, cap, _, rfl, Nat.le_refl _, heap_alloc_new w.drew _, Nat.zero_le _, hc, ?_, rfl⟩⟩
  have e : ∀ k, (Builtin.zeroCells (Value.float .f32 0).cells k).size = k := by
    intro k
    simp [Builtin.zeroCells, Value.cells]
  simp [e]
  omega

set_option maxHeartbeats 2000000 in
theorem slices_Grow_nil (n : Nat) (w : World) (h0 : 0 < n) (hl : n ≤ 4194304) :
    Calls Try.prog 53 #[.slice none 0 0, .int .i64 n] w (fun e w' => ∃ cap, e = .returned (.slice (some ⟨w.heap.size, 0, none⟩) 0 cap) ∧ Ow w' w.heap.size (.slice (some ⟨w.heap.size, 0, none⟩) 0 cap) [] ∧ Below w.heap.size w w') := by
  obtain ⟨i, hi, hz0, hz1, hz2⟩ := info_parts (P := Try.prog) (e := 32) (z := .float .f32 0) (size := 1) (bytes := 4) (by kernel_rfl)
  have hfit := growslice_fits (need := n) (old := 0) (bytes := 4) (by omega) (by omega)
  have hr := fun ty => Lib.run_append_grow_zeros (P := Try.prog) w 22 3 ty 32 i (.float .f32 0) .i64 .i64 Try.underlying22 Try.underlying3 hi hz0 none 0 0 [] (Go.run_firstCells_none w.drew i.size 0 0 0) n h0 (by omega) (by omega) (by omega) (by rw [hz2]; omega) (by rw [hz2, Nat.zero_add]; exact hfit)
  have hO := Ow_room w n (grownCap w (0 + n) 0 32) (grownCap_le_maxLen w (0 + n) 0 32 (by unfold maxLen; omega)) (by have := grownCap_ge w (0 + n) 0 32; omega)
  simp only [Nat.zero_add] at hr hO
  have hB : Below w.heap.size w (w.drew.alloc (.cells ((#[] : Array Value) ++ Builtin.zeroCells (Value.float .f32 0).cells n ++ Builtin.zeroCells (Value.float .f32 0).cells (grownCap w n 0 32 - n)) 32)) := (below_drewN' (Below.refl _ w) 1).alloc (Nat.le_refl _) _
  have H := Lib.hid (And.intro hO hB)
  generalize hW : w.drew.alloc (.cells ((#[] : Array Value) ++ Builtin.zeroCells (Value.float .f32 0).cells n ++ Builtin.zeroCells (Value.float .f32 0).cells (grownCap w n 0 32 - n)) 32) = W at hr H
  have hge := grownCap_ge w (0 + n) 0 32
  rw [Nat.zero_add] at hge
  generalize grownCap w n 0 32 = G at hr H hge
  have q1 : ¬ ((n : Int) < 0) := by omega
  have q2 : (n : Int) > 0 := by omega
  clear hO hB hW hfit hz0 hz1 hz2 hi
  go_enter Try.func53, Try.ntmps53
  go_wp2_with (at_builtin; refine Lib.wpList_append_run _ rfl (.tmp 20) (.tmp 21) 22 3 rfl _ _ rfl rfl _ _ (hr _) ?_)
  all_goals
    go_ret
    exact ⟨G, rfl, H.out.1, H.out.2⟩

def catN (xs ys : List Nat) : Nat → Nat
  | 0 => 0
  | 1 => xs.length
  | _ => xs.length + ys.length
def catL (xs ys : List Nat) : Nat → List Nat
  | 0 => []
  | 1 => xs
  | _ => xs ++ ys
set_option maxHeartbeats 4000000 in
theorem slices_Concat2 (r : Nat) (a b : Option Addr) (c d : Nat) (xs ys : List Nat) (w : World) (hr : r < w.heap.size) (hr0 : w.cell? ⟨r, 0, none⟩ = some (.slice a xs.length c)) (hr1 : w.cell? ⟨r, 1, none⟩ = some (.slice b ys.length d)) (hs : Fs w a xs) (ht : Fs w b ys) (hx : xs ≠ []) (hy : ys ≠ []) (hl : xs.length ≤ 1048577) (hl2 : ys.length ≤ 1048577) :
    Calls Try.prog 43 #[.slice (some ⟨r, 0, none⟩) 2 2] w (fun e w' => ∃ g cap, e = .returned (.slice (some ⟨g, 0, none⟩) (xs.length + ys.length) cap) ∧ Ow w' w.heap.size (.slice (some ⟨g, 0, none⟩) (xs.length + ys.length) cap) (xs ++ ys) ∧ Below w.heap.size w w') := by
  have HS := Lib.hid (And.intro hs ht)
  have HR := Lib.hid (And.intro hr0 hr1)
  have n0 : 0 < xs.length := List.length_pos_iff.2 hx
  clear hs ht hr0 hr1
  go_enter Try.func43, Try.ntmps43
  go_wp2
  go_loopw [3, 5, 11] (fun sz s i wr => ∃ k, k ≤ 2 ∧ i = .int .i64 (k : Nat) ∧ sz = .int .i64 (catN xs ys k : Nat) ∧ w = wr) (fun _ _ i _ => 2 - (intOf i).toNat)
  case atStart => exact ⟨0, by omega, rfl, rfl, rfl⟩
  case round =>
    obtain ⟨k, hk, rfl, rfl, rfl⟩ := hrel
    obtain ⟨k0, k1⟩ := HR.out
    have hk3 : k = 0 ∨ k = 1 ∨ k = 2 := by omega
    rcases hk3 with rfl | rfl | rfl
    · rw [show ((catN xs ys 0 : Nat) : Int) = 0 from rfl]
      have s4 : IntKind.i64.wrap ((0 : Int) + (xs.length : Int)) = (0 : Int) + (xs.length : Int) := IntWalk.i64_in _ (by omega)
      have s5 : IntKind.i64.wrap (xs.length : Int) = (xs.length : Int) := IntWalk.i64_in _ (by omega)
      have q : ¬ ((xs.length : Int) < 0) := by omega
      go_wp2
      go_roundw
      case rel => exact ⟨1, by omega, by go_num, by go_num, by first | rfl | trivial⟩
      case measure => simp [intOf]
    · rw [show ((catN xs ys 1 : Nat) : Int) = (xs.length : Int) from rfl]
      have s4 : IntKind.i64.wrap ((xs.length : Int) + (ys.length : Int)) = (xs.length : Int) + (ys.length : Int) := IntWalk.i64_in _ (by omega)
      have q : ¬ ((xs.length : Int) + (ys.length : Int) < 0) := by omega
      go_wp2
      go_roundw
      case rel => exact ⟨2, by omega, by go_num, by go_num, by first | rfl | trivial⟩
      case measure => simp [intOf]
    · go_wp2_with fail
      refine (slices_Grow_nil (xs.length + ys.length) _ (by omega) (by omega)).mono ?_
      rintro _ w1 ⟨cap, rfl, hO, hB⟩
      have H1 := Lib.hid (And.intro hO hB)
      clear hO hB k0 k1
      go_wp2
      go_loopw [6, 8, 27] (fun v s i wr => ∃ k, k ≤ 2 ∧ i = .int .i64 (k : Nat) ∧ Hid (Ow wr w.heap.size v (catL xs ys k) ∧ Below w.heap.size w wr)) (fun _ _ i _ => 2 - (intOf i).toNat)
      case atStart => exact ⟨0, by omega, rfl, H1.out⟩
      case round =>
        clear H1
        obtain ⟨k, hk, rfl, hO⟩ := hrel
        have k0 : wr.cell? ⟨r, 0, none⟩ = _ := (hO.out.2.cell (p := ⟨r, 0, none⟩) hr).trans HR.out.1
        have k1 : wr.cell? ⟨r, 1, none⟩ = _ := (hO.out.2.cell (p := ⟨r, 1, none⟩) hr).trans HR.out.2
        have hk3 : k = 0 ∨ k = 1 ∨ k = 2 := by omega
        rcases hk3 with rfl | rfl | rfl
        · obtain ⟨v2, w2, hrun, hO2, hG, _⟩ := run_app_src wr w.heap.size _ [] xs a c hO.out.1 (HS.out.1.below hO.out.2) (fun q => absurd q hx) hO.out.2.size (by simp; omega) 22
          have H2 := Lib.hid (show Ow w2 w.heap.size v2 (catL xs ys 1) ∧ Below w.heap.size w w2 from ⟨hO2, hO.out.2.grown hG hO.out.2.size (fun k hk => (hO.out.1.lt hk).1)⟩)
          clear hO2 hG
          go_wp2_with (at_builtin; refine Lib.wpList_append_run _ rfl (.tmp 31) (.tmp 32) 22 22 rfl _ _ rfl rfl _ _ hrun ?_)
          go_roundw
          case rel => exact ⟨1, by omega, by go_num, H2⟩
          case measure => simp [intOf]
        · obtain ⟨v2, w2, hrun, hO2, hG, _⟩ := run_app_src wr w.heap.size _ xs ys b d hO.out.1 (HS.out.2.below hO.out.2) (fun q => absurd q hy) hO.out.2.size (by omega) 22
          have H2 := Lib.hid (show Ow w2 w.heap.size v2 (catL xs ys 2) ∧ Below w.heap.size w w2 from ⟨hO2, hO.out.2.grown hG hO.out.2.size (fun k hk => (hO.out.1.lt hk).1)⟩)
          clear hO2 hG
          go_wp2_with (at_builtin; refine Lib.wpList_append_run _ rfl (.tmp 31) (.tmp 32) 22 22 rfl _ _ rfl rfl _ _ hrun ?_)
          go_roundw
          case rel => exact ⟨2, by omega, by go_num, H2⟩
          case measure => simp [intOf]
        · have e2 : catL xs ys 2 = xs ++ ys := rfl
          obtain ⟨a2, cap2, e, _, hg⟩ := hO.out.1.Fs
          obtain ⟨g, rfl, _⟩ := hg (by rw [e2]; simp [hx])
          subst e
          have HE := hO.out
          rw [e2, List.length_append] at HE
          rw [e2, List.length_append]
          have H3 := Lib.hid HE
          clear HE
          go_wp2
          go_ret
          exact ⟨g, cap2, rfl, H3.out.1, H3.out.2⟩
end Go.Proofs.Ytkdojogjalkddaa
