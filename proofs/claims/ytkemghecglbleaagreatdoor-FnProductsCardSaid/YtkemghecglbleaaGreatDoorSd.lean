/- Choices read from bytes: the source, its numbers. -/
import Derived.Test.YtkemghecglbleaaGreatDoorXw
import Derived.Test.YtkemghecglbleaaGreatDoorAp
import Derived.BigQuiet
import Derived.Laws.BitsLemmas
import Derived.Deep.DeepCutAuto
namespace Go.Proofs.YtkemghecglbleaaGreatDoor
set_option maxRecDepth 100000
set_option linter.unusedVariables false
open Go.RowKit
/-- only this block may have turned -/
def Tch (b : Nat) (w w' : World) : Prop := w'.os = w.os ∧ w'.tape = w.tape ∧ w'.output = w.output ∧ w.heap.size ≤ w'.heap.size ∧ ∀ i, i < w.heap.size → i ≠ b → w'.heap[i]? = w.heap[i]?
theorem Tch.refl (b : Nat) (w : World) : Tch b w w := ⟨rfl, rfl, rfl, Nat.le_refl _, fun _ _ _ => rfl⟩
theorem Tch.trans {b : Nat} {u v w : World} (h : Tch b u v) (h2 : Tch b v w) : Tch b u w := by
  obtain ⟨a1, a2, a3, a4, a5⟩ := h
  obtain ⟨b1, b2, b3, b4, b5⟩ := h2
  exact ⟨b1.trans a1, b2.trans a2, b3.trans a3, Nat.le_trans a4 b4, fun i hi hn => (b5 i (Nat.lt_of_lt_of_le hi a4) hn).trans (a5 i hi hn)⟩
theorem Tch.drewN (b : Nat) (w : World) (n : Nat) : Tch b w (w.drewN n) := ⟨rfl, rfl, rfl, Nat.le_refl _, fun _ _ _ => rfl⟩
theorem Tch.below {b : Nat} {w w' : World} (h : Tch b w w') {base : Nat} (hb : base ≤ b) (hs : base ≤ w.heap.size) : Below base w w' := by
  obtain ⟨a1, a2, a3, a4, a5⟩ := h
  exact ⟨a1, a2, a3, a4, fun i hi => a5 i (Nat.lt_of_lt_of_le hi hs) (by omega)⟩
theorem Tch.of_below {b : Nat} {w w' : World} (h : Below w.heap.size w w') : Tch b w w' := ⟨h.os, h.tape, h.output, h.size, fun i hi _ => h.block i hi⟩
theorem Tch.set (b : Nat) (w : World) (o : Nat) (v : Value) : Tch b w (w.setCell ⟨b, o, none⟩ v) :=
  ⟨rfl, rfl, rfl, by simp [World.setCell], fun i hi hn => Below.heap_setCell _ _ _ _ hn⟩
theorem add_block (a : Addr) (n : Nat) : (a.add n).block = a.block := by unfold Addr.add; split <;> rfl
/-- bytes that lie ahead of a block -/
def Bb (w : World) (a : Option Addr) (n b : Nat) : Prop := ∀ j : Nat, j < n → ∃ (ad : Addr) (v : Int), a = some ad ∧ 0 ≤ v ∧ v < 256 ∧ ad.block < b ∧ w.cell? (ad.add j) = some (.int .u8 v)
theorem Bb.kept {w w' : World} {a : Option Addr} {n b : Nat} (h : Bb w a n b) (hb : b ≤ w.heap.size) (ht : Tch b w w') : Bb w' a n b := fun j hj => by
  obtain ⟨ad, v, h1, h2, h3, h4, h5⟩ := h j hj
  exact ⟨ad, v, h1, h2, h3, h4, (World.cell?_of_block (w := w) (w' := w') (a := ad.add j) (by rw [add_block]; exact ht.2.2.2.2 ad.block (by omega) (by omega))).trans h5⟩
theorem Bb.of {w : World} {a : Option Addr} {n : Nat} (h : Bs w a n) : Bb w a n w.heap.size := fun j hj => by
  obtain ⟨ad, v, h1, h2, h3, h4⟩ := h j hj
  have h5 := World.block_lt_of_cell? w _ h4
  rw [add_block] at h5
  exact ⟨ad, v, h1, h2, h3, h5, h4⟩
def srcO (a : Option Addr) (la ca k s : Nat) : Obj := .cells #[.slice a la ca, .int .i64 (k : Nat), .int .u64 (s : Nat)] 76
/-- a source of choices: at most N have been read -/
def Sc (w : World) (b : Nat) (a : Option Addr) (la ca N : Nat) : Prop := ∃ k s : Nat, k ≤ N ∧ s < 18446744073709551616 ∧ w.heap[b]? = some (srcO a la ca k s) ∧ Bb w a la b
theorem src_cell {w : World} {b la ca k s : Nat} {a : Option Addr} (h : w.heap[b]? = some (srcO a la ca k s)) :
    w.cell? ⟨b, 0, none⟩ = some (.slice a la ca) ∧ w.cell? ⟨b, 1, none⟩ = some (.int .i64 (k : Nat)) ∧ w.cell? ⟨b, 2, none⟩ = some (.int .u64 (s : Nat)) ∧ w.frozen? ⟨b, 1, none⟩ = false ∧ w.frozen? ⟨b, 2, none⟩ = false := by
  simp [World.cell?, World.frozen?, h, srcO]
theorem src_set1 {w : World} {b la ca k s : Nat} {a : Option Addr} (h : w.heap[b]? = some (srcO a la ca k s)) (k' : Nat) : (w.setCell ⟨b, 1, none⟩ (.int .i64 (k' : Nat))).heap[b]? = some (srcO a la ca k' s) := by
  simp [World.setCell, Array.getElem?_modify, h, srcO]
theorem src_set2 {w : World} {b la ca k s : Nat} {a : Option Addr} (h : w.heap[b]? = some (srcO a la ca k s)) (s' : Nat) : (w.setCell ⟨b, 2, none⟩ (.int .u64 (s' : Nat))).heap[b]? = some (srcO a la ca k s') := by
  simp [World.setCell, Array.getElem?_modify, h, srcO]
theorem src_after {w : World} {b la ca k s : Nat} {a : Option Addr} (h : w.heap[b]? = some (srcO a la ca k s)) (n k' s' : Nat) :
    (((w.drewN n).setCell ⟨b, 1, none⟩ (.int .i64 (k' : Nat))).setCell ⟨b, 2, none⟩ (.int .u64 (s' : Nat))).heap[b]? = some (srcO a la ca k' s') ∧ Tch b w (((w.drewN n).setCell ⟨b, 1, none⟩ (.int .i64 (k' : Nat))).setCell ⟨b, 2, none⟩ (.int .u64 (s' : Nat))) :=
  ⟨src_set2 (src_set1 (w := w.drewN n) h k') s', ((Tch.drewN b w n).trans (Tch.set b _ 1 _)).trans (Tch.set b _ 2 _)⟩
theorem u64_wrap (x : Int) : ∃ n : Nat, IntKind.u64.wrap x = (n : Int) ∧ n < 18446744073709551616 := by
  have h : IntKind.u64.wrap x = x % 18446744073709551616 := by simp [IntKind.wrap, IntKind.bits, IntKind.signed]
  refine ⟨(x % 18446744073709551616).toNat, ?_, ?_⟩
  · rw [h, Int.toNat_of_nonneg (by omega)]
  · omega
theorem and255 (m : Nat) (h : m < 18446744073709551616) : bits BinOp.and IntKind.u64 (m : Nat) 255 = ((m % 256 : Nat) : Int) := by
  have := bits_mask .u64 64 (by decide) (fun n h0 h1 => by simp [IntKind.wrap, IntKind.bits, IntKind.signed]; omega) 8 (by decide) (m : Int) (by omega) (by omega)
  rw [show ((m % 256 : Nat) : Int) = (m : Int) % 2 ^ 8 by omega]
  exact this
set_option maxHeartbeats 2000000 in
theorem src_next (b : Nat) (a : Option Addr) (la ca N : Nat) (hN : N ≤ 4000000) (hla : la ≤ 1048576) (w : World) (h : Sc w b a la ca N) (hbs : b < w.heap.size) :
    Calls Tryz.prog 51 #[.pointer (some ⟨b, 0, none⟩)] w (fun e w' => ∃ r : Nat, r < 256 ∧ e = .returned (.int .i64 (r : Nat)) ∧ Sc w' b a la ca (N + 1) ∧ Tch b w w') := by
  obtain ⟨k, s, hk, hs, ho, hb⟩ := h
  obtain ⟨c0, c1, c2, f1, f2⟩ := src_cell ho
  have HO := Lib.hid ho
  have HB := Lib.hid hb
  have HS := Lib.hid hs
  clear ho hb hs
  by_cases hlt : k < la
  · obtain ⟨ad, v, rfl, v0, v1, _, hv⟩ := HB.out k hlt
    have hki : (k : Int) < (la : Nat) := by omega
    have hk0 : (0 : Int) ≤ (k : Nat) := by omega
    go_enter Tryz.func51, Tryz.ntmps51
    go_wp2
    go_quiet (fail)
    generalize nq = m1 at *
    go_wp2
    go_quiet (fail)
    generalize nq = m2 at *
    go_wp2
    obtain ⟨s2, e2, hs2⟩ := u64_wrap (IntKind.u64.wrap (IntKind.u64.wrap (↑s * 6364136223846793005) + v) + 1442695040888963407)
    obtain ⟨k2, hk2⟩ : ∃ k2, k2 = k + 1 := ⟨_, rfl⟩
    rw [e2, show ((k : Int) + 1) = (k2 : Nat) by omega]
    obtain ⟨h1, h2⟩ := src_after HO.out (m1 + m2) k2 s2
    generalize (((w.drewN (m1 + m2)).setCell ⟨b, 1, none⟩ (.int .i64 (k2 : Nat))).setCell ⟨b, 2, none⟩ (.int .u64 (s2 : Nat))) = W2 at *
    have H1 := Lib.hid h1
    have H2 := Lib.hid h2
    obtain ⟨d0, d1, d2, _, _⟩ := src_cell h1
    have HV := Lib.hid (And.intro v0 v1)
    have HE := Lib.hid (And.intro e2 hk2)
    have l1 : (k2 : Int) ≤ (la : Nat) := by omega
    obtain ⟨vn, hvn⟩ : ∃ vn : Nat, v = (vn : Int) := ⟨v.toNat, by omega⟩
    have HVN := Lib.hid hvn
    clear c0 c1 c2 f1 f2 h1 h2 e2 hv hki hk0 hlt hk2 hvn
    go_quiet (fail)
    generalize nq = m3 at *
    go_wp2
    go_ret
    have := HV.out
    have hh := HVN.out
    exact ⟨vn, by omega, by rw [← hh]; rfl, ⟨k2, s2, by have := HE.out.2; omega, hs2, H1.out, HB.out.kept (by omega) H2.out⟩, H2.out.trans (Tch.drewN b W2 m3)⟩
  · have hki : ¬ ((k : Int) < (la : Nat)) := by omega
    go_enter Tryz.func51, Tryz.ntmps51
    go_wp2
    go_quiet (fail)
    generalize nq = m1 at *
    go_wp2
    obtain ⟨s2, e2, hs2⟩ := u64_wrap (IntKind.u64.wrap (IntKind.u64.wrap (↑s * 6364136223846793005)) + 1442695040888963407)
    obtain ⟨k2, hk2⟩ : ∃ k2, k2 = k + 1 := ⟨_, rfl⟩
    rw [e2, show ((k : Int) + 1) = (k2 : Nat) by omega]
    obtain ⟨h1, h2⟩ := src_after HO.out m1 k2 s2
    generalize (((w.drewN m1).setCell ⟨b, 1, none⟩ (.int .i64 (k2 : Nat))).setCell ⟨b, 2, none⟩ (.int .u64 (s2 : Nat))) = W2 at *
    have H1 := Lib.hid h1
    have H2 := Lib.hid h2
    obtain ⟨d0, d1, d2, _, _⟩ := src_cell h1
    have HE := Lib.hid (And.intro e2 hk2)
    have l1 : ¬ ((k2 : Int) ≤ (la : Nat)) := by omega
    clear c0 c1 c2 f1 f2 h1 h2 e2 hki hlt hk2
    go_quiet (fail)
    generalize nq = m3 at *
    have ha := and255 (s2 / 1099511627776) (by omega)
    rw [show ((s2 / 1099511627776 : Nat) : Int) = (s2 : Int) / 1099511627776 by omega] at ha
    obtain ⟨r, hr⟩ : ∃ r : Nat, r = s2 / 1099511627776 % 256 := ⟨_, rfl⟩
    have hr1 : r < 256 := by omega
    have hr2 : (r : Int) ≤ 255 := by omega
    have hr3 : (0 : Int) ≤ (r : Int) := by omega
    rw [← hr] at ha
    have HR := Lib.hid hr
    clear hr
    go_wp2
    go_ret
    exact ⟨r, hr1, by rfl, ⟨k2, s2, by have := HE.out.2; omega, hs2, H1.out, HB.out.kept (by omega) H2.out⟩, H2.out.trans (Tch.drewN b W2 m3)⟩
/-- what is drawn: a value, and the source behind it -/
def RetSr (b : Nat) (a : Option Addr) (la ca N : Nat) (P : Value → Prop) (w : World) (e : Ending) (w' : World) : Prop := ∃ v, e = .returned v ∧ P v ∧ Sc w' b a la ca N ∧ Tch b w w'
theorem Sc.mono {w : World} {b la ca N M : Nat} {a : Option Addr} (h : Sc w b a la ca N) (hn : N ≤ M) : Sc w b a la ca M := by
  obtain ⟨k, s, hk, r⟩ := h
  exact ⟨k, s, by omega, r⟩
theorem Sc.kept {w w' : World} {b la ca N : Nat} {a : Option Addr} (h : Sc w b a la ca N) (hb : b < w.heap.size) (hB : Below (b + 1) w w') : Sc w' b a la ca N := by
  obtain ⟨k, s, hk, hs, ho, hq⟩ := h
  refine ⟨k, s, hk, hs, by rw [hB.block b (by omega)]; exact ho, fun j hj => ?_⟩
  obtain ⟨ad, v, h1, h2, h3, h4, h5⟩ := hq j hj
  exact ⟨ad, v, h1, h2, h3, h4, (World.cell?_of_block (w := w) (w' := w') (a := ad.add j) (by rw [add_block]; exact hB.block ad.block (by omega))).trans h5⟩
theorem Sc.drewN {w : World} {b la ca N : Nat} {a : Option Addr} (h : Sc w b a la ca N) (n : Nat) : Sc (w.drewN n) b a la ca N := h
theorem Tch.lt {b : Nat} {w w' : World} (h : Tch b w w') (hb : b < w.heap.size) : b < w'.heap.size := Nat.lt_of_lt_of_le hb h.2.2.2.1
def isInt (n : Int) (v : Value) : Prop := ∃ r : Nat, (r : Int) < n ∧ v = .int .i64 (r : Nat)
def isBool (v : Value) : Prop := ∃ t : Bool, v = .bool t
def isF32 (v : Value) : Prop := ∃ r : Nat, r < 4294967296 ∧ v = .float .f32 r
theorem emod_nat (x : Nat) (n : Int) (h : 0 ≤ n) : ((x % n.toNat : Nat) : Int) = (x : Int) % n := by
  obtain ⟨m, rfl⟩ : ∃ m : Nat, n = (m : Int) := ⟨n.toNat, by omega⟩
  simp
set_option maxHeartbeats 1000000 in
theorem src_pick (n : Int) (h1 : 2 ≤ n) (h2 : n ≤ 65536) (b : Nat) (a : Option Addr) (la ca N : Nat) (hN : N ≤ 3000000) (hla : la ≤ 1048576) (w : World) (h : Sc w b a la ca N) (hbs : b < w.heap.size) :
    Calls Tryz.prog 28 #[.pointer (some ⟨b, 0, none⟩), .int .i64 n] w (RetSr b a la ca (N + 2) (isInt n) w) := by
  have H := Lib.hid h
  have n1 : ¬ n ≤ 1 := by omega
  have n0 : ¬ n = 0 := by omega
  have nm : ¬ n = -1 := by omega
  clear h
  by_cases hg : n > 200
  · go_enter Tryz.func28, Tryz.ntmps28
    go_wp2_with fail
    refine (src_next b a la ca N (by omega) hla _ H.out hbs).mono ?_
    rintro _ w1 ⟨r, hr, rfl, hS, hT⟩
    have S1 := Lib.hid hS
    have T1 := Lib.hid hT
    have hb1 := hT.lt hbs
    clear hS hT
    go_wp2_with fail
    refine (src_next b a la ca (N + 1) (by omega) hla _ S1.out hb1).mono ?_
    rintro _ w2 ⟨q, hq, rfl, hS, hT⟩
    have S2 := Lib.hid hS
    have T2 := Lib.hid (T1.out.trans hT)
    clear hS hT
    have e0 : (0 : Int) ≤ (r : Int) * 256 + (q : Int) := by omega
    have e1 : (r : Int) * 256 + (q : Int) < 65536 := by omega
    go_wp2
    go_ret
    refine ⟨_, rfl, ⟨((r * 256 + q) % n.toNat), ?_, ?_⟩, S2.out.mono (by omega), T2.out⟩
    · have := Nat.mod_lt (r * 256 + q) (show 0 < n.toNat by omega)
      omega
    · rw [emod_nat _ n (by omega)]
      simp
  · go_enter Tryz.func28, Tryz.ntmps28
    go_wp2_with fail
    refine (src_next b a la ca N (by omega) hla _ H.out hbs).mono ?_
    rintro _ w1 ⟨r, hr, rfl, hS, hT⟩
    have S1 := Lib.hid hS
    have T1 := Lib.hid hT
    clear hS hT
    have e0 : (0 : Int) ≤ (r : Int) := by omega
    go_wp2
    go_ret
    refine ⟨_, rfl, ⟨(r % n.toNat), ?_, ?_⟩, S1.out.mono (by omega), T1.out⟩
    · have := Nat.mod_lt r (show 0 < n.toNat by omega)
      omega
    · rw [emod_nat _ n (by omega)]
      simp
theorem src_one (n : Int) (h1 : 2 ≤ n) (h2 : n ≤ 65536) (b : Nat) (a : Option Addr) (la ca N : Nat) (hN : N ≤ 3000000) (hla : la ≤ 1048576) (w : World) (h : Sc w b a la ca N) (hbs : b < w.heap.size) :
    Calls Tryz.prog 39 #[.pointer (some ⟨b, 0, none⟩), .int .i64 n] w (RetSr b a la ca (N + 2) isBool w) := by
  have C := Lib.hid (src_pick n h1 h2 b a la ca N hN hla w h hbs)
  clear h
  go_enter Tryz.func39, Tryz.ntmps39
  go_wp2_with fail
  refine C.out.mono ?_
  rintro _ w1 ⟨_, rfl, ⟨r, hr, rfl⟩, hS, hT⟩
  have H := Lib.hid (And.intro hS hT)
  clear hS hT
  go_wp2
  go_ret
  exact ⟨_, rfl, ⟨_, rfl⟩, H.out.1, H.out.2⟩
/-- numbers that lie in a block -/
def Ns (w : World) (g : Nat) (xs : List Int) : Prop := g < w.heap.size ∧ ∀ j : Nat, j < xs.length → w.cell? ⟨g, j, none⟩ = some (.int .i64 (xs.getD j 0))
def isOf (xs : List Int) (v : Value) : Prop := ∃ j : Nat, j < xs.length ∧ v = .int .i64 (xs.getD j 0)
set_option maxHeartbeats 1000000 in
theorem src_among (xs : List Int) (g : Nat) (hx : 2 ≤ xs.length ∧ xs.length ≤ 60) (b : Nat) (hgb : g ≠ b) (a : Option Addr) (la ca N : Nat) (hN : N ≤ 3000000) (hla : la ≤ 1048576) (w : World) (h : Sc w b a la ca N) (hbs : b < w.heap.size) (hg : Ns w g xs) (n c : Nat) (hn : n = xs.length) :
    Calls Tryz.prog 61 #[.pointer (some ⟨b, 0, none⟩), .slice (some ⟨g, 0, none⟩) n c] w (RetSr b a la ca (N + 2) (isOf xs) w) := by
  have C := Lib.hid (src_pick (n : Int) (by omega) (by omega) b a la ca N hN hla w h hbs)
  have HG := Lib.hid hg
  have HN := Lib.hid hn
  have hx2 : n ≤ 60 := by omega
  have hx1 : 2 ≤ n := by omega
  clear h hg hx hn
  go_enter Tryz.func61, Tryz.ntmps61
  go_wp2_with fail
  refine C.out.mono ?_
  rintro _ w1 ⟨_, rfl, ⟨r, hr, rfl⟩, hS, hT⟩
  have hc : w1.cell? ⟨g, r, none⟩ = some (.int .i64 (xs.getD r 0)) :=
    (World.cell?_of_block (w := w) (w' := w1) (a := ⟨g, r, none⟩) (hT.2.2.2.2 g HG.out.1 hgb)).trans (HG.out.2 r (by have := HN.out; omega))
  have H := Lib.hid (And.intro hS hT)
  have HR := Lib.hid (show r < xs.length by have := HN.out; omega)
  have r0 : (0 : Int) ≤ (r : Int) := by omega
  clear hS hT
  obtain ⟨y, hy⟩ : ∃ y, y = xs.getD r 0 := ⟨_, rfl⟩
  rw [← hy] at hc
  have HY := Lib.hid hy
  have r1 : (r : Int) < (n : Nat) := hr
  clear hy hr
  go_wp2
  go_ret
  exact ⟨_, rfl, ⟨r, HR.out, congrArg (Value.int .i64) HY.out⟩, H.out.1, H.out.2⟩
theorem Ns_alloc (w : World) (xs : List Int) (T : TypeId) : Ns (w.alloc (.cells (xs.map (Value.int .i64)).toArray T)) w.heap.size xs := by
  refine ⟨by simp, fun j hj => ?_⟩
  rw [World.cell?_alloc_at _ _ _ _ (by simp)]
  simp [hj]
theorem fe32_lt {r : Nat} {c : Option Nat} (h : FE .f32 r c) : r < 4294967296 := by have := h.lt; rw [f32_sign] at this; omega
set_option maxHeartbeats 1000000 in
theorem draw_plain (b : Nat) (a : Option Addr) (la ca N : Nat) (hN : N ≤ 2500000) (hla : la ≤ 1048576) (w : World) (h : Sc w b a la ca N) (hbs : b < w.heap.size) :
    Calls Tryz.prog 60 #[.pointer (some ⟨b, 0, none⟩)] w (RetSr b a la ca (N + 4) isF32 w) := by
  have C := Lib.hid (src_pick 129 (by omega) (by omega) b a la ca N (by omega) hla w h hbs)
  clear h
  go_enter Tryz.func60, Tryz.ntmps60
  go_wp2_with fail
  refine C.out.mono ?_
  rintro _ w1 ⟨_, rfl, ⟨r, hr, rfl⟩, hS, hT⟩
  have T1 := Lib.hid hT
  have C2 := Lib.hid (src_one 4 (by omega) (by omega) b a la ca (N + 2) (by omega) hla w1 hS (hT.lt hbs))
  clear hS hT
  go_wp2_with fail
  refine C2.out.mono ?_
  rintro _ w2 ⟨_, rfl, ⟨t, rfl⟩, hS, hT⟩
  have H := Lib.hid (And.intro hS (T1.out.trans hT))
  clear hS hT C C2 T1 hr
  cases t
  · go_wp2_with (((first | with_reducible refine up_add _ _ _ _ _ ?_ | with_reducible refine up_sub _ _ _ _ _ ?_ | with_reducible refine up_mul _ _ _ _ _ ?_ | with_reducible refine up_quo _ _ _ _ _ ?_)); intro r nd hr)
    go_ret
    exact ⟨_, rfl, ⟨_, fe32_lt hr, rfl⟩, H.out.1, H.out.2.trans (Tch.drewN _ _ _)⟩
  · go_wp2_with (((first | with_reducible refine up_add _ _ _ _ _ ?_ | with_reducible refine up_sub _ _ _ _ _ ?_ | with_reducible refine up_mul _ _ _ _ _ ?_ | with_reducible refine up_quo _ _ _ _ _ ?_)); intro r nd hr)
    go_ret
    exact ⟨_, rfl, ⟨_, fe32_lt hr, rfl⟩, H.out.1, H.out.2.trans (Tch.drewN _ _ _)⟩
def pickA : List Int := [0, 2147483648, 2139095040, 4286578688, 2143289344, 1, 2139095039, 8388608, 8388607, 2147483649]
def pickB : List Int := [8388608, 2130706432, 1610612736, 536870912]
theorem pickA_in : ∀ j : Nat, j < 10 → 0 ≤ pickA.getD j 0 ∧ pickA.getD j 0 ≤ 4294967295 := by decide
theorem pickB_in : ∀ j : Nat, j < 4 → 0 ≤ pickB.getD j 0 ∧ pickB.getD j 0 ≤ 4294967295 := by decide
theorem Sc.alloc {w : World} {b la ca N : Nat} {a : Option Addr} (h : Sc w b a la ca N) (hb : b < w.heap.size) (o : Obj) : Sc (w.alloc o) b a la ca N := h.kept hb ((Below.refl _ _).alloc hb o)
theorem Tch.alloc (b : Nat) (w : World) (o : Obj) : Tch b w (w.alloc o) := Tch.of_below ((Below.refl _ _).alloc (Nat.le_refl _) o)
set_option maxHeartbeats 4000000 in
theorem draw_float (b : Nat) (a : Option Addr) (la ca N : Nat) (hN : N ≤ 2000000) (hla : la ≤ 1048576) (w : World) (h : Sc w b a la ca N) (hbs : b < w.heap.size) :
    Calls Tryz.prog 41 #[.pointer (some ⟨b, 0, none⟩)] w (RetSr b a la ca (N + 10) isF32 w) := by
  have C := Lib.hid (src_one 12 (by omega) (by omega) b a la ca N (by omega) hla w h hbs)
  clear h
  go_enter Tryz.func41, Tryz.ntmps41
  go_wp2_with fail
  refine C.out.mono ?_
  rintro _ w1 ⟨_, rfl, ⟨t, rfl⟩, hS, hT⟩
  have T1 := Lib.hid hT
  have S1 := Lib.hid hS
  have b1 := hT.lt hbs
  clear hS hT C
  cases t
  · have C2 := Lib.hid (draw_plain b a la ca (N + 2) (by omega) hla w1 S1.out b1)
    go_wp2_with fail
    refine C2.out.mono ?_
    rintro _ w2 ⟨_, rfl, ⟨x, hx, rfl⟩, hS, hT⟩
    have H := Lib.hid (And.intro hS (T1.out.trans hT))
    clear hS hT
    go_wp2
    go_ret
    exact ⟨_, rfl, ⟨x, hx, rfl⟩, H.out.1.mono (by omega), H.out.2⟩
  · have C2 := Lib.hid (src_pick 4 (by omega) (by omega) b a la ca (N + 2) (by omega) hla w1 S1.out b1)
    go_wp2_with fail
    refine C2.out.mono ?_
    rintro _ w2 ⟨_, rfl, ⟨r, hr, rfl⟩, hS, hT⟩
    have T2 := Lib.hid (T1.out.trans hT)
    have S2 := Lib.hid hS
    have b2 := hT.lt b1
    have hr4 : r = 0 ∨ r = 1 ∨ r = 2 ∨ r = 3 := by omega
    clear hS hT C2 T1 S1 hr
    rcases hr4 with rfl | rfl | rfl | rfl
    · go_wp2_with fail
      refine (src_among pickA w2.heap.size (by decide) b (by omega) a la ca (N + 4) (by omega) hla _ (S2.out.alloc b2 _) (by simp; omega) (Ns_alloc w2 pickA _) _ _ rfl).mono ?_
      rintro _ w3 ⟨_, rfl, ⟨j, hj, rfl⟩, hS, hT⟩
      have T3 := Lib.hid (T2.out.trans ((Tch.alloc b w2 _).trans hT))
      have S3 := Lib.hid hS
      obtain ⟨l1, l2⟩ := pickA_in j hj
      clear hS hT
      generalize pickA.getD j 0 = y at *
      go_wp2_with (go_at_call 40; refine (spec_l01From y l1 l2 _).mono ?_; rintro _ _ ⟨nd, rfl, rfl⟩)
      go_ret
      exact ⟨_, rfl, ⟨y.toNat, by omega, rfl⟩, S3.out.mono (by omega), T3.out.trans (Tch.drewN _ _ _)⟩
    · have C3 := Lib.hid (src_pick 65536 (by omega) (by omega) b a la ca (N + 4) (by omega) hla w2 S2.out b2)
      go_wp2_with fail
      refine C3.out.mono ?_
      rintro _ w3 ⟨_, rfl, ⟨x, hx, rfl⟩, hS, hT⟩
      have T3 := Lib.hid (T2.out.trans hT)
      have S3 := Lib.hid hS
      have b3 := hT.lt b2
      clear hS hT C3
      have C4 := Lib.hid (src_pick 65536 (by omega) (by omega) b a la ca (N + 6) (by omega) hla w3 S3.out b3)
      go_wp2_with fail
      refine C4.out.mono ?_
      rintro _ w4 ⟨_, rfl, ⟨y, hy, rfl⟩, hS, hT⟩
      have T4 := Lib.hid (T3.out.trans hT)
      have S4 := Lib.hid hS
      clear hS hT C4
      go_wp2_with (go_at_call 40; refine (spec_l01From _ (by omega) (by omega) _).mono ?_; rintro _ _ ⟨nd, rfl, rfl⟩)
      go_ret
      exact ⟨_, rfl, ⟨((x : Int) * 65536 + (y : Int)).toNat, by omega, rfl⟩, S4.out.mono (by omega), T4.out.trans (Tch.drewN _ _ _)⟩
    · have C3 := Lib.hid (src_pick 65536 (by omega) (by omega) b a la ca (N + 4) (by omega) hla w2 S2.out b2)
      go_wp2_with fail
      refine C3.out.mono ?_
      rintro _ w3 ⟨_, rfl, ⟨x, hx, rfl⟩, hS, hT⟩
      have T3 := Lib.hid (T2.out.trans hT)
      have S3 := Lib.hid hS
      clear hS hT C3
      go_wp2_with (go_at_call 40; refine (spec_l01From _ (by omega) (by omega) _).mono ?_; rintro _ _ ⟨nd, rfl, rfl⟩)
      go_ret
      exact ⟨_, rfl, ⟨((x : Int) * 65536).toNat, by omega, rfl⟩, S3.out.mono (by omega), T3.out.trans (Tch.drewN _ _ _)⟩
    · have C3 := Lib.hid (draw_plain b a la ca (N + 4) (by omega) hla w2 S2.out b2)
      go_wp2_with fail
      refine C3.out.mono ?_
      rintro _ w3 ⟨_, rfl, ⟨x, hx, rfl⟩, hS, hT⟩
      have T3 := Lib.hid (T2.out.trans hT)
      have S3 := Lib.hid hS
      have b3 := hT.lt b2
      clear hS hT C3
      go_wp2_with fail
      refine (src_among pickB w3.heap.size (by decide) b (by omega) a la ca (N + 8) (by omega) hla _ (S3.out.alloc b3 _) (by simp; omega) (Ns_alloc w3 pickB _) _ _ rfl).mono ?_
      rintro _ w4 ⟨_, rfl, ⟨j, hj, rfl⟩, hS, hT⟩
      have T4 := Lib.hid (T3.out.trans ((Tch.alloc b w3 _).trans hT))
      have S4 := Lib.hid hS
      obtain ⟨l1, l2⟩ := pickB_in j hj
      clear hS hT
      generalize pickB.getD j 0 = y at *
      go_wp2_with (first | (go_at_call 40; refine (spec_l01From y l1 l2 _).mono ?_; rintro _ _ ⟨nd, rfl, rfl⟩) | (((first | with_reducible refine up_add _ _ _ _ _ ?_ | with_reducible refine up_sub _ _ _ _ _ ?_ | with_reducible refine up_mul _ _ _ _ _ ?_ | with_reducible refine up_quo _ _ _ _ _ ?_)); intro r nd hr))
      go_ret
      exact ⟨_, rfl, ⟨_, fe32_lt hr, rfl⟩, S4.out, T4.out.trans (Tch.drewN _ _ _)⟩
/-- a new source -/
theorem src_new (a : Option Addr) (la ca s k : Nat) (w : World) (hA : Bs w a la) : Sc (w.alloc (srcO a la ca 0 0)) w.heap.size a la ca 0 := by
  refine ⟨0, 0, Nat.le_refl _, by omega, heap_alloc_new w _, ?_⟩
  exact (Bb.of hA).kept (Nat.le_refl _) (Tch.alloc _ _ _)
set_option maxHeartbeats 1000000 in
theorem spec_l00From (a : Option Addr) (la ca : Nat) (w : World) (hA : Bs w a la) :
    Calls Tryz.prog 27 #[.slice a la ca] w (fun e w' => e = .returned (.pointer (some ⟨w.heap.size, 0, none⟩)) ∧ Sc w' w.heap.size a la ca 0 ∧ w.heap.size < w'.heap.size ∧ Below w.heap.size w w') := by
  have S := Lib.hid (src_new a la ca 0 0 w hA)
  go_enter Tryz.func27, Tryz.ntmps27
  go_wp2
  go_ret
  exact ⟨rfl, S.out, by simp, (Below.refl _ _).alloc (Nat.le_refl _) _⟩
def RetF32 (w : World) (e : Ending) (w' : World) : Prop := ∃ x : Nat, x < 4294967296 ∧ e = .returned (.float .f32 x) ∧ Below w.heap.size w w'
set_option maxHeartbeats 2000000 in
theorem spec_B10Number (a : Option Addr) (la ca : Nat) (hla : la ≤ 1048576) (w : World) (hA : Bs w a la) :
    Calls Tryz.prog 18 #[.slice a la ca] w (RetF32 w) := by
  have C0 := Lib.hid (spec_l00From a la ca w hA)
  go_enter Tryz.func18, Tryz.ntmps18
  go_wp2_with fail
  refine C0.out.mono ?_
  rintro _ w1 ⟨rfl, hS, hb, hB⟩
  have B1 := Lib.hid hB
  have C1 := Lib.hid (src_one 2 (by omega) (by omega) w.heap.size a la ca 0 (by omega) hla w1 hS hb)
  clear hS hB C0
  go_wp2_with fail
  refine C1.out.mono ?_
  rintro _ w2 ⟨_, rfl, ⟨t, rfl⟩, hS, hT⟩
  have S2 := Lib.hid hS
  have b2 := hT.lt hb
  have B2 := Lib.hid (B1.out.trans (hT.below (Nat.le_refl _) (by omega)))
  clear hS hT C1
  cases t
  · have C2 := Lib.hid (draw_float w.heap.size a la ca 2 (by omega) hla w2 S2.out b2)
    go_wp2_with fail
    refine C2.out.mono ?_
    rintro _ w3 ⟨_, rfl, ⟨x, hx, rfl⟩, hS, hT⟩
    have B3 := Lib.hid (B2.out.trans (hT.below (Nat.le_refl _) (by omega)))
    clear hS hT
    go_wp2
    go_ret
    exact ⟨x, hx, rfl, B3.out⟩
  · have C3 := Lib.hid (src_pick 65536 (by omega) (by omega) w.heap.size a la ca 2 (by omega) hla w2 S2.out b2)
    go_wp2_with fail
    refine C3.out.mono ?_
    rintro _ w3 ⟨_, rfl, ⟨x, hx, rfl⟩, hS, hT⟩
    have B3 := Lib.hid (B2.out.trans (hT.below (Nat.le_refl _) (by omega)))
    have S3 := Lib.hid hS
    have b3 := hT.lt b2
    clear hS hT C3
    have C4 := Lib.hid (src_pick 65536 (by omega) (by omega) w.heap.size a la ca 4 (by omega) hla w3 S3.out b3)
    go_wp2_with fail
    refine C4.out.mono ?_
    rintro _ w4 ⟨_, rfl, ⟨y, hy, rfl⟩, hS, hT⟩
    have B4 := Lib.hid (B3.out.trans (hT.below (Nat.le_refl _) (by omega)))
    clear hS hT C4
    go_wp2_with (go_at_call 40; refine (spec_l01From _ (by omega) (by omega) _).mono ?_; rintro _ _ ⟨nd, rfl, rfl⟩)
    go_ret
    exact ⟨((x : Int) * 65536 + (y : Int)).toNat, by omega, rfl, below_drewN' B4.out _⟩
end Go.Proofs.YtkemghecglbleaaGreatDoor
