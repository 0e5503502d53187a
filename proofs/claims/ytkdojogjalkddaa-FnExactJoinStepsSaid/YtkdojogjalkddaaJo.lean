/- Own slices that grow beside each other; the reference's copy of steps. -/
import Derived.Test.YtkdojogjalkddaaJn
namespace Go.Proofs.Ytkdojogjalkddaa
set_option maxRecDepth 100000
set_option linter.unusedVariables false
open Go.RowKit

/-- own slices in blocks apart -/
def Ot (w0 : World) (sl : List (Value × List Nat)) (w : World) : Prop :=
  Below w0.heap.size w0 w ∧ (∀ s ∈ sl, Ow w w0.heap.size s.1 s.2) ∧ sl.Pairwise fun s t => ∀ k, s.1.ownBlock = some k → t.1.ownBlock ≠ some k
section
variable {w0 w w' : World} {sl : List (Value × List Nat)}
theorem Ot.start (w : World) : Ot w [] w := ⟨Below.refl _ _, by simp, .nil⟩
theorem Ot.base (h : Ot w0 sl w) : Below w0.heap.size w0 w := h.1
theorem Ot.drewN (h : Ot w0 sl w) (n : Nat) : Ot w0 sl (w.drewN n) := ⟨below_drewN' h.1 n, fun s q => (h.2.1 s q).drewN n, h.2.2⟩
theorem Ot.drew (h : Ot w0 sl w) : Ot w0 sl w.drew := h.drewN 1
theorem Ot.empty (h : Ot w0 sl w) : Ot w0 ((.slice (some ⟨w.heap.size, 0, none⟩) 0 0, []) :: sl) (w.alloc (.cells #[] 32)) := by
  refine ⟨h.1.alloc h.1.size _, fun s q => ?_, List.pairwise_cons.2 ⟨fun s q k hk e => ?_, h.2.2⟩⟩
  · rcases List.mem_cons.1 q with rfl | q
    · exact Ow_empty w _ h.1.size
    · exact (h.2.1 s q).alloc _
  · have := ((h.2.1 s q).lt e).2
    have e2 : some w.heap.size = some k := hk
    injection e2 with e2
    omega
theorem Ot.emptyN (h : Ot w0 sl w) {N : Nat} (hN : w.heap.size = N) : Ot w0 ((.slice (some ⟨N, 0, none⟩) 0 0, []) :: sl) (w.alloc (.cells #[] 32)) := hN ▸ h.empty
theorem Ot.later (h : Ot w0 sl w) (hB : Below w.heap.size w w') : Ot w0 sl w' := ⟨h.1.trans (hB.mono h.1.size), fun s q => (h.2.1 s q).below2 hB, h.2.2⟩
theorem Ot.fs (h : Ot w0 sl w) {a : Option Addr} {xs : List Nat} (hf : Fs w0 a xs) : Fs w a xs := hf.below h.1
/-- the first grows -/
theorem Ot.app {v : Value} {xs ys : List Nat} {a : Option Addr} {c : Nat} (h : Ot w0 ((v, xs) :: sl) w) (hs : Fs w a ys) (hc : ys = [] → c = 0 ∨ a ≠ none) (hl : xs.length + ys.length ≤ 4194304) (ty : TypeId) :
    ∃ v' w', (Builtin.append_ #[22, 22] ty #[v, .slice a ys.length c]).run Try.prog w = .ok v' w' ∧ Ot w0 ((v', xs ++ ys) :: sl) w' := by
  have hv := h.2.1 (v, xs) (by simp)
  have hp := List.pairwise_cons.1 h.2.2
  obtain ⟨v', w', hr, hO, hG, hW⟩ := run_app_src w w0.heap.size v xs ys a c hv hs hc h.1.size hl ty
  refine ⟨v', w', hr, h.1.grown hG h.1.size (fun k hk => (hv.lt hk).1), fun s q => ?_, List.pairwise_cons.2 ⟨fun s q k hk e => ?_, hp.2⟩⟩
  · rcases List.mem_cons.1 q with rfl | q
    · exact hO
    · refine (h.2.1 s (List.mem_cons_of_mem _ q)).kept hG ?_
      cases e : s.1.ownBlock with
      | none => exact .inl rfl
      | some k => exact .inr fun q2 => hp.1 s q k q2.symm e
  · have hlt := ((h.2.1 s (List.mem_cons_of_mem _ q)).lt e).2
    rcases hW with r | r
    · have hk' : v'.ownBlock = some k := hk
      rw [r] at hk'
      exact hp.1 s q k hk' e
    · have hk' : v'.ownBlock = some k := hk
      rw [r] at hk'
      injection hk' with hk'
      omega
/-- the second comes first -/
theorem Ot.swap {s t : Value × List Nat} (h : Ot w0 (s :: t :: sl) w) : Ot w0 (t :: s :: sl) w := by
  have h1 := List.pairwise_cons.1 h.2.2
  have h2 := List.pairwise_cons.1 h1.2
  refine ⟨h.1, fun u q => h.2.1 u ?_, List.pairwise_cons.2 ⟨fun u q k hk => ?_, List.pairwise_cons.2 ⟨fun u q => h1.1 u (List.mem_cons_of_mem _ q), h2.2⟩⟩⟩
  · simp only [List.mem_cons] at q ⊢
    rcases q with q | q | q
    · exact .inr (.inl q)
    · exact .inl q
    · exact .inr (.inr q)
  · rcases List.mem_cons.1 q with rfl | q
    · exact fun e => h1.1 t (by simp) k e hk
    · exact h2.1 u q k hk
end
theorem step_app_own {w0 w : World} {sl : List (Value × List Nat)} {ops : Array Oper} {o : Oper} {a : Act} {K : Act → World → Prop} {Q : Exit → Act → World → Prop} {E : Prop} (hgd : o.guard = none) (s x : Operand)
    (ho : o.op = .call { callee := .builtin .append, args := #[s, x], argTypes := #[22, 22] }) {v : Value} {xs ys : List Nat} {b : Option Addr} {c : Nat} (h : Ot w0 ((v, xs) :: sl) w)
    (hs : a.eval s = v) (hx : a.eval x = .slice b ys.length c) (hf : Fs w0 b ys) (hc : ys ≠ []) (hl : xs.length + ys.length ≤ 4194304) (zs : List Nat) (hz : xs ++ ys = zs)
    (hk : ∀ g' c' w', Ot w0 ((.slice (some ⟨g', 0, none⟩) zs.length c', zs) :: sl) w' → K (a.put o.dst (.slice (some ⟨g', 0, none⟩) zs.length c')) w') : if Region.wanted o (yielded ops a.tmps) = true then Oper.wp Try.prog o a w K Q else E := by
  obtain ⟨v', w', hr, hO⟩ := h.app (h.fs hf) (fun q => absurd q hc) hl o.type
  rw [hz] at hO
  obtain ⟨a', c', e, _, hg⟩ := (hO.2.1 (v', zs) (by simp)).Fs
  obtain ⟨g', rfl, _⟩ := hg (by rw [← hz]; simp [hc])
  have e : v' = .slice (some ⟨g', 0, none⟩) zs.length c' := e
  subst e
  exact step_append_run hgd s x _ ho _ _ hs hx _ _ hr (hk _ _ _ hO)
theorem Bk.pair {w w' : World} {p B : Nat} {u v : Value} (h : Bk w p u v) (hB : Below B w w') (hp : p < B) : w'.cell? ⟨p, 0, none⟩ = some u ∧ w'.cell? ⟨p, 1, none⟩ = some v ∧ p < w'.heap.size := ⟨(h.below hB hp).1, (h.below hB hp).2.1, (h.below hB hp).2.2⟩
def RetOwn (xs ys : List Nat) (w : World) (e : Ending) (w' : World) : Prop :=
  ∃ ve vh, e = .returned (.agg #[ve, vh]) ∧ Ot w [(ve, xs), (vh, ys)] w'
theorem own_end {w w' : World} {X : Obj} {ve vh u u' : Value} {xs ys : List Nat} (h : Ot (w.alloc X) [(ve, xs), (vh, ys)] w') :
    RetOwn xs ys w (.returned (.agg #[ve, vh])) ((w'.setCell ⟨w.heap.size, 0, none⟩ u).setCell ⟨w.heap.size, 1, none⟩ u') := by
  have e : (w.alloc X).heap.size = w.heap.size + 1 := by simp
  have hz : w.heap.size + 1 ≤ w'.heap.size := by have := h.1.size; omega
  refine ⟨ve, vh, rfl, (((below1 w X).trans (h.1.mono (by omega))).setCell (Nat.le_refl _) _).setCell (Nat.le_refl _) _, fun s q => ?_, h.2.2⟩
  have hO := h.2.1 s q
  have hb : s.1.ownBlock ≠ some w.heap.size := fun r => by have := (hO.lt r).1; omega
  exact ((hO.kept (grownBy_set w' w.heap.size 0 u) (.inr hb)).kept (grownBy_set _ w.heap.size 1 u') (.inr hb)).base (fun k hk => by have := (hO.lt hk).1; omega)

set_option maxHeartbeats 4000000 in
theorem spec_l02Own (p : Nat) (a b : Option Addr) (c d : Nat) (xs ys : List Nat) (w : World) (hp : p < w.heap.size) (h0 : w.cell? ⟨p, 0, none⟩ = some (.slice a xs.length c)) (h1 : w.cell? ⟨p, 1, none⟩ = some (.slice b ys.length d)) (hs : Fs w a xs) (ht : Fs w b ys)
    (hx : xs ≠ []) (hy : ys ≠ []) (hl : xs.length ≤ 1048576) (hl2 : ys.length ≤ 1048576) :
    Calls Try.prog 50 #[.pointer (some ⟨p, 0, none⟩)] w (RetOwn xs ys w) := by
  have HS := Lib.hid (And.intro (hs.below (below1 w (.cells #[.slice none 0 0, .slice none 0 0] 27))) (ht.below (below1 w (.cells #[.slice none 0 0, .slice none 0 0] 27))))
  have HB := Lib.hid (show Bk (w.alloc (.cells #[.slice none 0 0, .slice none 0 0] 27)) p _ _ ∧ p < (w.alloc (.cells #[.slice none 0 0, .slice none 0 0] 27)).heap.size from ⟨(show Bk w p _ _ from ⟨h0, h1, hp⟩).below (below1 w _) hp, by simp; omega⟩)
  have HR := Lib.hid (show Bk (w.alloc (.cells #[.slice none 0 0, .slice none 0 0] 27)) w.heap.size _ _ ∧ w.heap.size < (w.alloc (.cells #[.slice none 0 0, .slice none 0 0] 27)).heap.size from ⟨Bk.new w _ _ _, by simp⟩)
  have HF := Lib.hid (show (w.alloc (.cells #[.slice none 0 0, .slice none 0 0] 27)).frozen? ⟨w.heap.size, 0, none⟩ = false ∧ (w.alloc (.cells #[.slice none 0 0, .slice none 0 0] 27)).frozen? ⟨w.heap.size, 1, none⟩ = false from ⟨World.frozen?_alloc_at _ _ _ _ rfl, World.frozen?_alloc_at _ _ _ _ rfl⟩)
  have T := Lib.hid (Ot.start (w.alloc (.cells #[.slice none 0 0, .slice none 0 0] 27)))
  have HC := Lib.hid (And.intro h0 (And.intro h1 hp))
  clear hs ht h0 h1 hp
  go_enter Try.func50, Try.ntmps50
  obtain ⟨k0, k1, k2⟩ := HC.out
  obtain ⟨k3, k4, _⟩ := HB.out.1.pair (below2' _ (.cells #[] 32) (.cells #[] 32)) HB.out.2
  go_upto_region 1 with fail
  go_region_law
    (first
      | (refine step_app_own rfl (.tmp 3) (.tmp 7) rfl (T.out.emptyN (N := w.heap.size + 1) (by simp)).drew (by rfl) (by rfl) HS.out.1 hx (by simp; omega) xs rfl ?_; intro g1 c1 w1 hT; clear T; have T1 := Lib.hid hT; clear hT; obtain ⟨q0, q1, q2⟩ := HB.out.1.pair T1.out.base HB.out.2)
      | (refine step_app_own rfl (.tmp 3) (.tmp 7) rfl ((T.out.emptyN (N := w.heap.size + 1) (by simp)).emptyN (N := w.heap.size + 2) (by simp)).swap.drew (by rfl) (by rfl) HS.out.1 hx (by simp; omega) xs rfl ?_; intro g1 c1 w1 hT; clear T; have T2 := Lib.hid hT.swap; clear hT; obtain ⟨q0, q1, q2⟩ := HB.out.1.pair T2.out.base HB.out.2)
      | (refine step_app_own rfl (.tmp 3) (.tmp 7) rfl ((T.out.emptyN (N := w.heap.size + 1) (by simp)).emptyN (N := w.heap.size + 2) (by simp)).drew (by rfl) (by rfl) HS.out.1 hx (by simp; omega) xs rfl ?_; intro g1 c1 w1 hT; clear T; have T2 := Lib.hid hT.swap; clear hT; obtain ⟨q0, q1, q2⟩ := HB.out.1.pair T2.out.base HB.out.2)
      | (refine step_app_own rfl (.tmp 9) (.tmp 13) rfl T1.out.empty (by rfl) (by rfl) HS.out.2 hy (by simp; omega) ys rfl ?_; intro g2 c2 w2 hT; clear T1; have T3 := Lib.hid hT.swap; clear hT; obtain ⟨r0, r1, r2⟩ := HR.out.1.pair T3.out.base HR.out.2; have r3 := (T3.out.base.frozen (p := ⟨w.heap.size, 0, none⟩) HR.out.2).trans HF.out.1; have r4 := (T3.out.base.frozen (p := ⟨w.heap.size, 1, none⟩) HR.out.2).trans HF.out.2)
      | (refine step_app_own rfl (.tmp 9) (.tmp 13) rfl T2.out (by rfl) (by rfl) HS.out.2 hy (by simp; omega) ys rfl ?_; intro g2 c2 w2 hT; clear T2; have T3 := Lib.hid hT.swap; clear hT; obtain ⟨r0, r1, r2⟩ := HR.out.1.pair T3.out.base HR.out.2; have r3 := (T3.out.base.frozen (p := ⟨w.heap.size, 0, none⟩) HR.out.2).trans HF.out.1; have r4 := (T3.out.base.frozen (p := ⟨w.heap.size, 1, none⟩) HR.out.2).trans HF.out.2))
  all_goals
    go_wp2
    refine bodyPost_ret (v := .agg #[.slice (some ⟨g1, 0, none⟩) xs.length c1, .slice (some ⟨g2, 0, none⟩) ys.length c2]) (by simp [results, Try.results50, go_sem, r0, r1]) rfl ?_
    exact own_end T3.out
end Go.Proofs.Ytkdojogjalkddaa
