/- Is it a mode in which a node lives: known. -/
import Derived.Test.YteflckedfnflpaaNmtV
set_option linter.unusedSimpArgs false
set_option linter.unusedVariables false
set_option linter.unnecessarySimpa false
namespace Go.Proofs.Yteflckedfnflpaa
open Go.RowKit Go.Shelf
attribute [local go_sem] Oper.semAt_some

def knownB (m : Int) : Bool := m == 4 || m == 5 || m == 127
set_option maxRecDepth 100000 in
set_option maxHeartbeats 4000000 in
theorem known_in (F : Fence) (n : Nat) (h3 : F.fn 28) (h4 : F.fn 22) (h5 : F.fn 29) (h7 : F.fn 33) (hro : F.round = none) (hn : 4 ≤ n) (m : Int) (w : World) :
    CallsIn F n Try.prog 28 #[.int .i64 m] w fun e W' => e = .returned (.bool (knownB m)) ∧ Below w.heap.size w W' := by
  have h1 : 1 ≤ n := by omega
  have hlen : modes.length = 4 := rfl
  refine callsIn_of_wp_marks Try.func28 rfl h3 ?_ hro
  simp only [Try.ntmps28, List.size_toArray, List.length_cons, List.length_nil, Nat.reduceAdd, Nat.reduceSub, Array.replicate_succ, Array.replicate_zero, List.push_toArray, List.append_toArray, List.nil_append, List.cons_append]
  gi_wp2_with (gi_at_call 22; refine (modes_in F (n - 1) h4 h5 hro (by omega) _).mono ?_; rintro e w' ⟨rfl, rfl⟩)
  obtain ⟨W0, hW0⟩ : ∃ W0, ((w.alloc (.cells #[.int .i64 m] MDT)).alloc (.cells #[.bool false] 4)) = W0 := ⟨_, rfl⟩
  have hz : W0.heap.size = w.heap.size + 1 + 1 := by rw [← hW0]; simp
  have bm : W0.heap[w.heap.size]? = some (.cells #[.int .i64 m] MDT) := by
    rw [← hW0, Below.heap_alloc _ _ _ (by simp), World.alloc_heap_new]
  have br : W0.heap[w.heap.size + 1]? = some (.cells #[.bool false] 4) := by
    have := World.alloc_heap_new (w.alloc (.cells #[.int .i64 m] MDT)) (.cells #[.bool false] 4)
    rw [World.size_alloc] at this
    rw [← hW0]
    exact this
  have hB0 : Below w.heap.size w W0 := by rw [← hW0]; exact ((Below.refl _ w).alloc (Nat.le_refl _) _).alloc (by simp) _
  have hzm : (modesW W0).heap.size = w.heap.size + 1 + 1 + 1 + 1 := by simp [modesW, hz]
  have hBm : Below W0.heap.size W0 (modesW W0) := ((Below.refl _ W0).alloc (Nat.le_refl _) _).alloc (by simp) _
  have cm : (modesW W0).cell? ⟨w.heap.size, 0, none⟩ = some (.int .i64 m) := (hBm.cell (p := ⟨w.heap.size, 0, none⟩) (by show w.heap.size < _; omega)).trans (by simp [World.cell?, bm])
  have hbr : (modesW W0).heap[w.heap.size + 1]? = some (.cells #[.bool false] 4) := (hBm.block _ (by omega)).trans br
  have cr : (modesW W0).cell? ⟨w.heap.size + 1, 0, none⟩ = some (.bool false) := by simp [World.cell?, hbr]
  have fr : (modesW W0).frozen? ⟨w.heap.size + 1, 0, none⟩ = false := by simp [World.frozen?, hbr]
  have hst := modes_stops F (n - 1) h7 hro (by omega) W0
  rw [hz] at hst
  have hB1 : Below w.heap.size w (modesW W0) := hB0.trans (hBm.mono (by omega))
  rw [hW0]
  generalize modesW W0 = W1 at *
  clear bm br hW0 hB0 hBm hbr
  refine wpIn_rangeFunc_ownG hro h1 (gf := 33) (lb := #[.pointer (some ⟨w.heap.size + 1 + 1 + 1, 0, none⟩)]) rfl h7 (enters_of Try.func33 (by kernel_rfl) rfl)
    hst (fun h k => h.trans k) (rk_b (by omega)) (Below.refl _ _) (fun _ => rfl)
    (fun pre W => ((∀ x ∈ pre, ¬ (x = m ∧ x ≠ 0)) ∧ W.cell? ⟨w.heap.size, 0, none⟩ = some (.int .i64 m) ∧ W.cell? ⟨w.heap.size + 1, 0, none⟩ = some (.bool false) ∧ W.frozen? ⟨w.heap.size + 1, 0, none⟩ = false) ∧ Below w.heap.size w W)
    (fun c pre W => (c = .ret ∧ ∃ x ∈ pre, (x = m ∧ x ≠ 0) ∧ W.cell? ⟨w.heap.size + 1, 0, none⟩ = some (.bool true)) ∧ Below w.heap.size w W)
    (OwnFrom.and (Own.from (fun s A B row hs hg hr => ⟨hs.1, cell_kept hs.2.1 hg hr, cell_kept hs.2.2.1 hg hr, (frozen_kept hs.2.2.1 hg hr).trans hs.2.2.2⟩) _) (ownFrom_below (Nat.le_refl _) (by omega)))
    (fun c => OwnFrom.and (Own.from (fun s A B row hs hg hr => by obtain ⟨hc, x, h1, h2, h3⟩ := hs; exact ⟨hc, x, h1, h2, cell_kept h3 hg hr⟩) _) (ownFrom_below (Nat.le_refl _) (by omega)))
    ⟨⟨by simp, cm, cr, fr⟩, hB1⟩
    (fun x => { tmps := #[.int .i64 m, .pointer (some ⟨w.heap.size, 0, none⟩), .pointer (some ⟨w.heap.size + 1, 0, none⟩), .int .i64 x, .func (Fn.func 33) #[] #[.pointer (some ⟨w.heap.size + 1 + 1 + 1, 0, none⟩)], .int .i64 x, undef, undef, undef, undef, undef, undef, undef], defers := [] }) ?assign ?body ?done ?stop
  case assign =>
    intro l x W K hK
    gi_wp2
    exact hK
  case body =>
    rintro l pre x W ⟨⟨hp, hm, hr, hf⟩, hB⟩ _
    by_cases hx : x = m
    · have e1 : (x == m) = true := by simpa using hx
      by_cases h0 : x = 0
      · have e2 : (x != 0) = false := by simpa using h0
        gi_wp2
        exact ⟨KeepsFrom.refl _ _, RK.refl _ _, ⟨fun p hp' => (List.mem_append.1 hp').elim (hp p) (fun e => by simp at e; subst e; exact fun h => h.2 h0), hm, hr, hf⟩, hB⟩
      · have e2 : (x != 0) = true := by simpa using h0
        gi_wp2
        exact ⟨(KeepsOthers.setCell _ _ _).from _, ⟨rfl, x, by simp, ⟨hx, h0⟩, World.cell?_setCell_same' _ _ _ (by rw [hr]; rfl)⟩, hB.setCell (p := ⟨w.heap.size + 1, 0, none⟩) (by show w.heap.size ≤ w.heap.size + 1; omega) _⟩
    · have e1 : (x == m) = false := by simpa using hx
      gi_wp2
      exact ⟨KeepsFrom.refl _ _, RK.refl _ _, ⟨fun p hp' => (List.mem_append.1 hp').elim (hp p) (fun e => by simp at e; subst e; exact fun h => hx h.1), hm, hr, hf⟩, hB⟩
  case done =>
    rintro D ys W hD rfl ⟨⟨hne, _, hcr, hfr⟩, hB⟩ hK
    gi_wp2
    have hK' := (KeepsOthers.setCell W ⟨w.heap.size + 1, 0, none⟩ (.bool false)).same D _ hK rfl
    refine ⟨by simp, .inl ⟨_, _, rfl, run_takeDeferred hK', ?_⟩⟩
    have hc5 := cell_kept (World.cell?_setCell_same' W ⟨w.heap.size + 1, 0, none⟩ (.bool false) (by rw [hcr]; rfl)) (grownBy_putObj' _ D (.deferred none)) (fun r e => by cases e; exact ⟨_, hK', rfl⟩)
    refine ⟨.bool false, ?_, ?_, (hB.setCell (p := ⟨w.heap.size + 1, 0, none⟩) (by show w.heap.size ≤ w.heap.size + 1; omega) _).trans (belowK_b (w := w) (Nat.le_refl _) _ D _ _ (by omega) hK' rfl rfl)⟩
    · simp [results, Try.f28, go_sem, hc5]
    · have a := hne 4 (by simp [modes])
      have b := hne 5 (by simp [modes])
      have c := hne 127 (by simp [modes])
      have : knownB m = false := by
        unfold knownB
        simp only [Bool.or_eq_false_iff, beq_eq_false_iff_ne]
        omega
      rw [this]
  case stop =>
    rintro D c pre W hD hpre ⟨⟨rfl, x, hx, ⟨rfl, h0⟩, hcr⟩, hB⟩ hK
    gi_wp2
    refine ⟨by simp, .inl ⟨_, _, rfl, run_takeDeferred hK, ?_⟩⟩
    have hc5 := cell_kept hcr (grownBy_putObj' _ D (.deferred none)) (fun r e => by cases e; exact ⟨_, hK, rfl⟩)
    refine ⟨.bool true, ?_, ?_, hB.trans (belowK_b (w := w) (Nat.le_refl _) W D _ _ (by omega) hK rfl rfl)⟩
    · simp [results, Try.f28, go_sem, hc5]
    · have hm : x ∈ modes := hpre.subset hx
      have : knownB x = true := by
        simp only [modes, List.mem_cons, List.not_mem_nil, or_false] at hm
        unfold knownB
        rcases hm with rfl | rfl | rfl | rfl
        · exact absurd rfl h0
        all_goals rfl
      rw [this]

theorem known_c (m : Int) (w : World) : Calls Try.prog 28 #[.int .i64 m] w fun e w' => e = .returned (.bool (knownB m)) ∧ Below w.heap.size w w' :=
  (callsIn_wide (n := 6)).1 (known_in Fence.wide 6 trivial trivial trivial trivial rfl (by omega) m w)

end Go.Proofs.Yteflckedfnflpaa
