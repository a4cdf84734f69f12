/- The law NmtServices: the walk. -/
import Derived.Test.YteflckedfnflpaaNmtS
import Derived.Deep.RegionHeld
set_option linter.unusedSimpArgs false
set_option linter.unusedVariables false
set_option linter.unnecessarySimpa false
namespace Go.Proofs.Yteflckedfnflpaa
open Go.RowKit Go.Shelf
attribute [local go_sem] Oper.semAt_some

theorem eq_nilfunc (f : Fn) (x y : Array Value) (w : World) : (binOp .eql 54 (.func f x y) .nilFunc).run Try.prog w = .ok (.bool false) w := by
  kernel_rfl
attribute [local go_sem] eq_nilfunc

/-- The last number that came, or -1. -/
def lastOf (l : List Int) : Int := l.getLastD (-1)
theorem lastOf_snoc (l : List Int) (x : Int) : lastOf (l ++ [x]) = x := by simp [lastOf]
theorem modes_up {ini : List Int} {x : Int} (h : ini ++ [x] <+: modes) : lastOf ini < x := by
  obtain ⟨t, ht⟩ := h
  rcases ini with _ | ⟨a, _ | ⟨b, _ | ⟨c, _ | ⟨d, r⟩⟩⟩⟩
  · simp [modes] at ht; obtain ⟨rfl, _⟩ := ht; decide
  · simp [modes] at ht; obtain ⟨rfl, rfl, _⟩ := ht; decide
  · simp [modes] at ht; obtain ⟨rfl, rfl, rfl, _⟩ := ht; decide
  · simp [modes] at ht; obtain ⟨rfl, rfl, rfl, rfl, _⟩ := ht; decide
  · exfalso
    have := congrArg List.length ht
    simp [modes] at this

set_option maxRecDepth 100000 in
set_option maxHeartbeats 4000000 in
theorem services_in (m s : Int) (w : World) : CallsIn Fence.wide 10 Try.prog 6 #[.int .i64 m, .int .i64 s] w fun e W' => e = .returned (.bool true) ∧ Below w.heap.size w W' := by
  have hn9 : 10 - 1 = 9 := rfl
  have MY := hid (fun w => mays_c m s w)
  have DS := hid (fun w => does_c m s w)
  obtain ⟨q, hq⟩ : ∃ q, mayS m s = q := ⟨_, rfl⟩
  rw [hq] at MY DS
  have hf : q = false ∨ (q = true ∧ (m == 0) = false ∧ ((s == 5) = false ∨ ((s == 5) = true ∧ (m != 5) = false))) := by
    cases q
    · exact .inl rfl
    · refine .inr ⟨rfl, ?_, ?_⟩
      · have : m ≠ 0 := fun h => by rw [h, mayS_zero] at hq; cases hq
        simpa using this
      · by_cases h5 : s = 5
        · rw [h5] at hq
          have := mayS_safe hq
          exact .inr ⟨by simpa using h5, by simpa using this⟩
        · exact .inl (by simpa using h5)
  refine callsIn_of_wp_marks Try.func6 rfl trivial ?_ rfl
  simp only [Try.ntmps6, List.size_toArray, List.length_cons, List.length_nil, Nat.reduceAdd, Nat.reduceSub, Array.replicate_succ, Array.replicate_zero, List.push_toArray, List.append_toArray, List.nil_append, List.cons_append]
  clear hq
  rcases hf with rfl | ⟨rfl, g1, g2 | ⟨g2, g3⟩⟩
  · gi_wp2_with (first
      | (refine ⟨trivial, ?_⟩; gi_at_call 20; refine (callsIn_wide.2 (MY.out _)).mono ?_; rintro e w1 ⟨rfl, k1⟩)
      | (refine ⟨trivial, ?_⟩; gi_at_call 21; refine (callsIn_wide.2 (DS.out _)).mono ?_; rintro e w2 ⟨rfl, k2⟩)
      | (refine ⟨trivial, ?_⟩; gi_at_call 22; refine (modes_in Fence.wide 9 trivial trivial rfl (by omega) _).mono ?_; rintro e w' ⟨rfl, rfl⟩))
    obtain ⟨W0, hW0⟩ : ∃ W0, ((w2.alloc (.cells #[.int .i64 0] 3)).alloc (.cells #[.int .i64 (-1)] 3)) = W0 := ⟨_, rfl⟩
    have hz : W0.heap.size = w2.heap.size + 1 + 1 := by rw [← hW0]; simp
    have bn : W0.heap[w2.heap.size]? = some (.cells #[.int .i64 0] 3) := by
      rw [← hW0, Below.heap_alloc _ _ _ (by simp), World.alloc_heap_new]
    have bl : W0.heap[w2.heap.size + 1]? = some (.cells #[.int .i64 (-1)] 3) := by
      have := World.alloc_heap_new (w2.alloc (.cells #[.int .i64 0] 3)) (.cells #[.int .i64 (-1)] 3)
      rw [World.size_alloc] at this
      rw [← hW0]
      exact this
    have k12 : Below (w.heap.size + 1) (w.alloc (.cells #[.bool false] 4)) w2 := by
      have := k1.trans k2
      unfold Ext at this
      rwa [World.size_alloc] at this
    have hsz : w.heap.size + 1 ≤ w2.heap.size := by have := k12.size; simpa using this
    have hB2 : Below (w.heap.size + 1) (w.alloc (.cells #[.bool false] 4)) W0 := by rw [← hW0]; exact (k12.alloc (by simpa using hsz) _).alloc (by simp; omega) _
    have hBm : Below W0.heap.size W0 (modesW W0) := ((Below.refl _ W0).alloc (Nat.le_refl _) _).alloc (by simp) _
    have hzm : (modesW W0).heap.size = w2.heap.size + 1 + 1 + 1 + 1 := by simp [modesW, hz]
    have br : (w.alloc (.cells #[.bool false] 4)).heap[w.heap.size]? = some (.cells #[.bool false] 4) := World.alloc_heap_new _ _
    have br1 : (modesW W0).heap[w.heap.size]? = some (.cells #[.bool false] 4) := (hBm.block _ (by omega)).trans ((hB2.block _ (by omega)).trans br)
    have bn1 : (modesW W0).heap[w2.heap.size]? = some (.cells #[.int .i64 0] 3) := (hBm.block _ (by omega)).trans bn
    have bl1 : (modesW W0).heap[w2.heap.size + 1]? = some (.cells #[.int .i64 (-1)] 3) := (hBm.block _ (by omega)).trans bl
    have hst := modes_stops Fence.wide 9 trivial rfl (by omega) W0
    have hB1 : Below w.heap.size w (modesW W0) := by
      have a : Below w.heap.size w (w.alloc (.cells #[.bool false] 4)) := (Below.refl _ w).alloc (Nat.le_refl _) _
      exact a.trans ((hB2.mono (by omega)).trans (hBm.mono (by omega)))
    rw [hz] at hst
    rw [hW0]
    generalize modesW W0 = W1 at *
    generalize w2.heap.size = g at *
    clear bn bl br hB2 hBm hW0 k12 k1 k2 MY DS
    gi_wp2
    have cr : W1.cell? ⟨w.heap.size, 0, none⟩ = some (.bool false) := by simp [World.cell?, br1]
    have fr : W1.frozen? ⟨w.heap.size, 0, none⟩ = false := by simp [World.frozen?, br1]
    have cn : W1.cell? ⟨g, 0, none⟩ = some (.int .i64 0) := by simp [World.cell?, bn1]
    have fn : W1.frozen? ⟨g, 0, none⟩ = false := by simp [World.frozen?, bn1]
    have cl : W1.cell? ⟨g + 1, 0, none⟩ = some (.int .i64 (-1)) := by simp [World.cell?, bl1]
    have fl : W1.frozen? ⟨g + 1, 0, none⟩ = false := by simp [World.frozen?, bl1]
    clear br1 bn1 bl1
    refine wpIn_rangeFunc_ownG rfl (by omega) (gf := 33) (lb := #[.pointer (some ⟨g + 1 + 1 + 1, 0, none⟩)]) rfl trivial (enters_of Try.func33 (by kernel_rfl) rfl)
      hst (fun h k => h.trans k) (rk_b (by omega)) (Below.refl _ _) (fun _ => rfl)
      (fun pre W => ((W.cell? ⟨w.heap.size, 0, none⟩ = some (.bool false) ∧ W.frozen? ⟨w.heap.size, 0, none⟩ = false) ∧ (W.cell? ⟨g, 0, none⟩ = some (.int .i64 pre.length) ∧ W.frozen? ⟨g, 0, none⟩ = false) ∧ W.cell? ⟨g + 1, 0, none⟩ = some (.int .i64 (lastOf pre)) ∧ W.frozen? ⟨g + 1, 0, none⟩ = false) ∧ Below w.heap.size w W)
      (fun c pre W => ∃ ini x, pre = ini ++ [x] ∧ x ≤ lastOf ini)
      (OwnFrom.and (Own.from (fun s A B row hs hg hr => ⟨⟨cell_kept hs.1.1 hg hr, (frozen_kept hs.1.1 hg hr).trans hs.1.2⟩, ⟨cell_kept hs.2.1.1 hg hr, (frozen_kept hs.2.1.1 hg hr).trans hs.2.1.2⟩, cell_kept hs.2.2.1 hg hr, (frozen_kept hs.2.2.1 hg hr).trans hs.2.2.2⟩) _) (ownFrom_below (Nat.le_refl _) (by omega)))
      (fun c => Own.from (fun s A B row hs hg hr => hs) _)
      ⟨⟨⟨cr, fr⟩, ⟨cn, fn⟩, cl, fl⟩, hB1⟩
      (fun x => { tmps := #[.int .i64 m, .int .i64 s, undef, undef, .pointer (some ⟨w.heap.size, 0, none⟩), .bool false, .pointer (some ⟨g, 0, none⟩), .pointer (some ⟨g + 1, 0, none⟩), .func (Fn.func 33) #[] #[.pointer (some ⟨g + 1 + 1 + 1, 0, none⟩)], .int .i64 x, .int .i64 m, .int .i64 s, .bool false, .bool false, .int .i64 m, .int .i64 s, .bool false, .bool false, .bool false, .bool false, .bool false, undef, undef, .bool false, .bool false, .bool false, .bool false, .bool false, undef, undef, .bool false, .bool false, undef, undef, .bool false, .bool false, .func (Fn.func 33) #[] #[.pointer (some ⟨g + 1 + 1 + 1, 0, none⟩)], .func (Fn.func 33) #[] #[.pointer (some ⟨g + 1 + 1 + 1, 0, none⟩)], .bool false, .func (Fn.func 33) #[] #[.pointer (some ⟨g + 1 + 1 + 1, 0, none⟩)], .int .i64 x, undef, undef, undef, undef, undef, undef, undef, undef, undef, undef, undef, undef, undef, undef, undef], defers := [] }) ?assign ?body ?done ?stop
    case assign =>
      intro l x W K hK
      gi_wp2
      exact hK
    case body =>
      rintro l pre x W ⟨⟨⟨hr, hfr⟩, ⟨hn, hfn⟩, hl, hfl⟩, hB⟩ hlen
      have hl4 : pre.length < 4 := hlen
      by_cases hx : x ≤ lastOf pre
      · have e1 : decide (x ≤ lastOf pre) = true := by simpa using hx
        gi_wp2
        exact ⟨(KeepsOthers.setCell _ _ _).from _, pre, x, rfl, hx⟩
      · have e1 : decide (x ≤ lastOf pre) = false := by simpa using hx
        have hw : IntKind.i64.wrap ((pre.length : Int) + 1) = (pre.length : Int) + 1 := IntWalk.i64_in _ (by omega)
        have hn' : (W.setCell ⟨g + 1, 0, none⟩ (.int .i64 x)).cell? ⟨g, 0, none⟩ = some (.int .i64 pre.length) := by rw [World.cell?_setCell_far _ _ _ _ (by show g + 1 ≠ g; omega)]; exact hn
        gi_wp2
        have e2 : ((pre ++ [x]).length : Int) = (pre.length : Int) + 1 := by simp
        refine ⟨((KeepsOthers.setCell _ _ _).trans (KeepsOthers.setCell _ _ _)).from _, (rk_set W (by omega)).trans (rk_set _ (by omega)), ⟨⟨?_, ?_⟩, ⟨?_, ?_⟩, ?_, ?_⟩, (hB.setCell (p := ⟨g + 1, 0, none⟩) (by show w.heap.size ≤ g + 1; omega) _).setCell (p := ⟨g, 0, none⟩) (by show w.heap.size ≤ g; omega) _⟩
        · rw [World.cell?_setCell_far _ _ _ _ (by show g ≠ w.heap.size; omega), World.cell?_setCell_far _ _ _ _ (by show g + 1 ≠ w.heap.size; omega)]; exact hr
        · rw [World.frozen?_setCell, World.frozen?_setCell]; exact hfr
        · rw [World.cell?_setCell_same' _ _ _ (by rw [hn']; rfl), e2]
        · rw [World.frozen?_setCell, World.frozen?_setCell]; exact hfn
        · rw [World.cell?_setCell_far _ _ _ _ (by show g ≠ g + 1; omega), World.cell?_setCell_same' _ _ _ (by rw [hl]; rfl), lastOf_snoc]
        · rw [World.frozen?_setCell, World.frozen?_setCell]; exact hfl
    case done =>
      rintro D ys W hD rfl ⟨⟨⟨hr, hfr⟩, ⟨hn, hfn⟩, hl, hfl⟩, hB⟩ hK
      have hn4 : W.cell? ⟨g, 0, none⟩ = some (.int .i64 4) := hn
      have hl4 : W.cell? ⟨g + 1, 0, none⟩ = some (.int .i64 127) := hl
      gi_wp2_with (refine ⟨trivial, ?_⟩; gi_at_call 8; refine (callsIn_wide.2 (live_c _)).mono ?_; rintro e w5 ⟨rfl, k5⟩; have hn5 := k5.cell hn4; have hl5 := k5.cell hl4; have hr5 := k5.cell hr; have hb5 := k5.block w.heap.size (World.block_lt_of_cell? W ⟨w.heap.size, 0, none⟩ hr); have hf5 : w5.frozen? ⟨w.heap.size, 0, none⟩ = false := (by simp only [World.frozen?, hb5]; exact hfr))
      have hK5 : w5.heap[D]? = some (.deferred (some [])) := (k5.block D (Array.getElem?_eq_some_iff.1 hK).1).trans hK
      have hK' := (KeepsOthers.setCell w5 ⟨w.heap.size, 0, none⟩ (.bool true)).same D _ hK5 rfl
      refine ⟨by simp, .inl ⟨_, _, rfl, run_takeDeferred hK', ?_⟩⟩
      have hc5 := cell_kept (World.cell?_setCell_same' w5 ⟨w.heap.size, 0, none⟩ (.bool true) (by rw [hr5]; rfl)) (grownBy_putObj' _ D (.deferred none)) (fun r e => by cases e; exact ⟨_, hK', rfl⟩)
      have k5' : Below W.heap.size W w5 := k5
      refine ⟨.bool true, ?_, rfl, ((hB.trans (k5'.mono hB.size)).setCell (p := ⟨w.heap.size, 0, none⟩) (Nat.le_refl _) _).trans (belowK_b (w := w) (Nat.le_refl _) _ D _ _ (by omega) hK' rfl rfl)⟩
      simp [results, Try.f6, go_sem, hc5]
    case stop =>
      rintro D c pre W hD hpre ⟨ini, x, rfl, hx⟩ hK
      have := modes_up hpre
      omega
  · gi_wp2_with (first
      | (refine ⟨trivial, ?_⟩; gi_at_call 20; refine (callsIn_wide.2 (MY.out _)).mono ?_; rintro e w1 ⟨rfl, k1⟩)
      | (refine ⟨trivial, ?_⟩; gi_at_call 21; refine (callsIn_wide.2 (DS.out _)).mono ?_; rintro e w2 ⟨rfl, k2⟩)
      | (refine ⟨trivial, ?_⟩; gi_at_call 22; refine (modes_in Fence.wide 9 trivial trivial rfl (by omega) _).mono ?_; rintro e w' ⟨rfl, rfl⟩))
    obtain ⟨W0, hW0⟩ : ∃ W0, ((w2.alloc (.cells #[.int .i64 0] 3)).alloc (.cells #[.int .i64 (-1)] 3)) = W0 := ⟨_, rfl⟩
    have hz : W0.heap.size = w2.heap.size + 1 + 1 := by rw [← hW0]; simp
    have bn : W0.heap[w2.heap.size]? = some (.cells #[.int .i64 0] 3) := by
      rw [← hW0, Below.heap_alloc _ _ _ (by simp), World.alloc_heap_new]
    have bl : W0.heap[w2.heap.size + 1]? = some (.cells #[.int .i64 (-1)] 3) := by
      have := World.alloc_heap_new (w2.alloc (.cells #[.int .i64 0] 3)) (.cells #[.int .i64 (-1)] 3)
      rw [World.size_alloc] at this
      rw [← hW0]
      exact this
    have k12 : Below (w.heap.size + 1) (w.alloc (.cells #[.bool false] 4)) w2 := by
      have := k1.trans k2
      unfold Ext at this
      rwa [World.size_alloc] at this
    have hsz : w.heap.size + 1 ≤ w2.heap.size := by have := k12.size; simpa using this
    have hB2 : Below (w.heap.size + 1) (w.alloc (.cells #[.bool false] 4)) W0 := by rw [← hW0]; exact (k12.alloc (by simpa using hsz) _).alloc (by simp; omega) _
    have hBm : Below W0.heap.size W0 (modesW W0) := ((Below.refl _ W0).alloc (Nat.le_refl _) _).alloc (by simp) _
    have hzm : (modesW W0).heap.size = w2.heap.size + 1 + 1 + 1 + 1 := by simp [modesW, hz]
    have br : (w.alloc (.cells #[.bool false] 4)).heap[w.heap.size]? = some (.cells #[.bool false] 4) := World.alloc_heap_new _ _
    have br1 : (modesW W0).heap[w.heap.size]? = some (.cells #[.bool false] 4) := (hBm.block _ (by omega)).trans ((hB2.block _ (by omega)).trans br)
    have bn1 : (modesW W0).heap[w2.heap.size]? = some (.cells #[.int .i64 0] 3) := (hBm.block _ (by omega)).trans bn
    have bl1 : (modesW W0).heap[w2.heap.size + 1]? = some (.cells #[.int .i64 (-1)] 3) := (hBm.block _ (by omega)).trans bl
    have hst := modes_stops Fence.wide 9 trivial rfl (by omega) W0
    have hB1 : Below w.heap.size w (modesW W0) := by
      have a : Below w.heap.size w (w.alloc (.cells #[.bool false] 4)) := (Below.refl _ w).alloc (Nat.le_refl _) _
      exact a.trans ((hB2.mono (by omega)).trans (hBm.mono (by omega)))
    rw [hz] at hst
    rw [hW0]
    generalize modesW W0 = W1 at *
    generalize w2.heap.size = g at *
    clear bn bl br hB2 hBm hW0 k12 k1 k2 MY DS
    gi_wp2
    have cr : W1.cell? ⟨w.heap.size, 0, none⟩ = some (.bool false) := by simp [World.cell?, br1]
    have fr : W1.frozen? ⟨w.heap.size, 0, none⟩ = false := by simp [World.frozen?, br1]
    have cn : W1.cell? ⟨g, 0, none⟩ = some (.int .i64 0) := by simp [World.cell?, bn1]
    have fn : W1.frozen? ⟨g, 0, none⟩ = false := by simp [World.frozen?, bn1]
    have cl : W1.cell? ⟨g + 1, 0, none⟩ = some (.int .i64 (-1)) := by simp [World.cell?, bl1]
    have fl : W1.frozen? ⟨g + 1, 0, none⟩ = false := by simp [World.frozen?, bl1]
    clear br1 bn1 bl1
    refine wpIn_rangeFunc_ownG rfl (by omega) (gf := 33) (lb := #[.pointer (some ⟨g + 1 + 1 + 1, 0, none⟩)]) rfl trivial (enters_of Try.func33 (by kernel_rfl) rfl)
      hst (fun h k => h.trans k) (rk_b (by omega)) (Below.refl _ _) (fun _ => rfl)
      (fun pre W => ((W.cell? ⟨w.heap.size, 0, none⟩ = some (.bool false) ∧ W.frozen? ⟨w.heap.size, 0, none⟩ = false) ∧ (W.cell? ⟨g, 0, none⟩ = some (.int .i64 pre.length) ∧ W.frozen? ⟨g, 0, none⟩ = false) ∧ W.cell? ⟨g + 1, 0, none⟩ = some (.int .i64 (lastOf pre)) ∧ W.frozen? ⟨g + 1, 0, none⟩ = false) ∧ Below w.heap.size w W)
      (fun c pre W => ∃ ini x, pre = ini ++ [x] ∧ x ≤ lastOf ini)
      (OwnFrom.and (Own.from (fun s A B row hs hg hr => ⟨⟨cell_kept hs.1.1 hg hr, (frozen_kept hs.1.1 hg hr).trans hs.1.2⟩, ⟨cell_kept hs.2.1.1 hg hr, (frozen_kept hs.2.1.1 hg hr).trans hs.2.1.2⟩, cell_kept hs.2.2.1 hg hr, (frozen_kept hs.2.2.1 hg hr).trans hs.2.2.2⟩) _) (ownFrom_below (Nat.le_refl _) (by omega)))
      (fun c => Own.from (fun s A B row hs hg hr => hs) _)
      ⟨⟨⟨cr, fr⟩, ⟨cn, fn⟩, cl, fl⟩, hB1⟩
      (fun x => { tmps := #[.int .i64 m, .int .i64 s, undef, undef, .pointer (some ⟨w.heap.size, 0, none⟩), .bool true, .pointer (some ⟨g, 0, none⟩), .pointer (some ⟨g + 1, 0, none⟩), .func (Fn.func 33) #[] #[.pointer (some ⟨g + 1 + 1 + 1, 0, none⟩)], .int .i64 x, .int .i64 m, .int .i64 s, .bool true, .bool true, .int .i64 m, .int .i64 s, .bool true, .bool false, .bool false, .bool true, .bool true, .int .i64 m, .bool false, .bool false, .bool false, .bool false, .bool true, .bool true, .int .i64 s, .bool false, .bool false, .bool false, undef, undef, .bool false, .bool false, .func (Fn.func 33) #[] #[.pointer (some ⟨g + 1 + 1 + 1, 0, none⟩)], .func (Fn.func 33) #[] #[.pointer (some ⟨g + 1 + 1 + 1, 0, none⟩)], .bool false, .func (Fn.func 33) #[] #[.pointer (some ⟨g + 1 + 1 + 1, 0, none⟩)], .int .i64 x, undef, undef, undef, undef, undef, undef, undef, undef, undef, undef, undef, undef, undef, undef, undef], defers := [] }) ?assign ?body ?done ?stop
    case assign =>
      intro l x W K hK
      gi_wp2
      exact hK
    case body =>
      rintro l pre x W ⟨⟨⟨hr, hfr⟩, ⟨hn, hfn⟩, hl, hfl⟩, hB⟩ hlen
      have hl4 : pre.length < 4 := hlen
      by_cases hx : x ≤ lastOf pre
      · have e1 : decide (x ≤ lastOf pre) = true := by simpa using hx
        gi_wp2
        exact ⟨(KeepsOthers.setCell _ _ _).from _, pre, x, rfl, hx⟩
      · have e1 : decide (x ≤ lastOf pre) = false := by simpa using hx
        have hw : IntKind.i64.wrap ((pre.length : Int) + 1) = (pre.length : Int) + 1 := IntWalk.i64_in _ (by omega)
        have hn' : (W.setCell ⟨g + 1, 0, none⟩ (.int .i64 x)).cell? ⟨g, 0, none⟩ = some (.int .i64 pre.length) := by rw [World.cell?_setCell_far _ _ _ _ (by show g + 1 ≠ g; omega)]; exact hn
        gi_wp2
        have e2 : ((pre ++ [x]).length : Int) = (pre.length : Int) + 1 := by simp
        refine ⟨((KeepsOthers.setCell _ _ _).trans (KeepsOthers.setCell _ _ _)).from _, (rk_set W (by omega)).trans (rk_set _ (by omega)), ⟨⟨?_, ?_⟩, ⟨?_, ?_⟩, ?_, ?_⟩, (hB.setCell (p := ⟨g + 1, 0, none⟩) (by show w.heap.size ≤ g + 1; omega) _).setCell (p := ⟨g, 0, none⟩) (by show w.heap.size ≤ g; omega) _⟩
        · rw [World.cell?_setCell_far _ _ _ _ (by show g ≠ w.heap.size; omega), World.cell?_setCell_far _ _ _ _ (by show g + 1 ≠ w.heap.size; omega)]; exact hr
        · rw [World.frozen?_setCell, World.frozen?_setCell]; exact hfr
        · rw [World.cell?_setCell_same' _ _ _ (by rw [hn']; rfl), e2]
        · rw [World.frozen?_setCell, World.frozen?_setCell]; exact hfn
        · rw [World.cell?_setCell_far _ _ _ _ (by show g ≠ g + 1; omega), World.cell?_setCell_same' _ _ _ (by rw [hl]; rfl), lastOf_snoc]
        · rw [World.frozen?_setCell, World.frozen?_setCell]; exact hfl
    case done =>
      rintro D ys W hD rfl ⟨⟨⟨hr, hfr⟩, ⟨hn, hfn⟩, hl, hfl⟩, hB⟩ hK
      have hn4 : W.cell? ⟨g, 0, none⟩ = some (.int .i64 4) := hn
      have hl4 : W.cell? ⟨g + 1, 0, none⟩ = some (.int .i64 127) := hl
      gi_wp2_with (refine ⟨trivial, ?_⟩; gi_at_call 8; refine (callsIn_wide.2 (live_c _)).mono ?_; rintro e w5 ⟨rfl, k5⟩; have hn5 := k5.cell hn4; have hl5 := k5.cell hl4; have hr5 := k5.cell hr; have hb5 := k5.block w.heap.size (World.block_lt_of_cell? W ⟨w.heap.size, 0, none⟩ hr); have hf5 : w5.frozen? ⟨w.heap.size, 0, none⟩ = false := (by simp only [World.frozen?, hb5]; exact hfr))
      have hK5 : w5.heap[D]? = some (.deferred (some [])) := (k5.block D (Array.getElem?_eq_some_iff.1 hK).1).trans hK
      have hK' := (KeepsOthers.setCell w5 ⟨w.heap.size, 0, none⟩ (.bool true)).same D _ hK5 rfl
      refine ⟨by simp, .inl ⟨_, _, rfl, run_takeDeferred hK', ?_⟩⟩
      have hc5 := cell_kept (World.cell?_setCell_same' w5 ⟨w.heap.size, 0, none⟩ (.bool true) (by rw [hr5]; rfl)) (grownBy_putObj' _ D (.deferred none)) (fun r e => by cases e; exact ⟨_, hK', rfl⟩)
      have k5' : Below W.heap.size W w5 := k5
      refine ⟨.bool true, ?_, rfl, ((hB.trans (k5'.mono hB.size)).setCell (p := ⟨w.heap.size, 0, none⟩) (Nat.le_refl _) _).trans (belowK_b (w := w) (Nat.le_refl _) _ D _ _ (by omega) hK' rfl rfl)⟩
      simp [results, Try.f6, go_sem, hc5]
    case stop =>
      rintro D c pre W hD hpre ⟨ini, x, rfl, hx⟩ hK
      have := modes_up hpre
      omega
  · gi_wp2_with (first
      | (refine ⟨trivial, ?_⟩; gi_at_call 20; refine (callsIn_wide.2 (MY.out _)).mono ?_; rintro e w1 ⟨rfl, k1⟩)
      | (refine ⟨trivial, ?_⟩; gi_at_call 21; refine (callsIn_wide.2 (DS.out _)).mono ?_; rintro e w2 ⟨rfl, k2⟩)
      | (refine ⟨trivial, ?_⟩; gi_at_call 22; refine (modes_in Fence.wide 9 trivial trivial rfl (by omega) _).mono ?_; rintro e w' ⟨rfl, rfl⟩))
    obtain ⟨W0, hW0⟩ : ∃ W0, ((w2.alloc (.cells #[.int .i64 0] 3)).alloc (.cells #[.int .i64 (-1)] 3)) = W0 := ⟨_, rfl⟩
    have hz : W0.heap.size = w2.heap.size + 1 + 1 := by rw [← hW0]; simp
    have bn : W0.heap[w2.heap.size]? = some (.cells #[.int .i64 0] 3) := by
      rw [← hW0, Below.heap_alloc _ _ _ (by simp), World.alloc_heap_new]
    have bl : W0.heap[w2.heap.size + 1]? = some (.cells #[.int .i64 (-1)] 3) := by
      have := World.alloc_heap_new (w2.alloc (.cells #[.int .i64 0] 3)) (.cells #[.int .i64 (-1)] 3)
      rw [World.size_alloc] at this
      rw [← hW0]
      exact this
    have k12 : Below (w.heap.size + 1) (w.alloc (.cells #[.bool false] 4)) w2 := by
      have := k1.trans k2
      unfold Ext at this
      rwa [World.size_alloc] at this
    have hsz : w.heap.size + 1 ≤ w2.heap.size := by have := k12.size; simpa using this
    have hB2 : Below (w.heap.size + 1) (w.alloc (.cells #[.bool false] 4)) W0 := by rw [← hW0]; exact (k12.alloc (by simpa using hsz) _).alloc (by simp; omega) _
    have hBm : Below W0.heap.size W0 (modesW W0) := ((Below.refl _ W0).alloc (Nat.le_refl _) _).alloc (by simp) _
    have hzm : (modesW W0).heap.size = w2.heap.size + 1 + 1 + 1 + 1 := by simp [modesW, hz]
    have br : (w.alloc (.cells #[.bool false] 4)).heap[w.heap.size]? = some (.cells #[.bool false] 4) := World.alloc_heap_new _ _
    have br1 : (modesW W0).heap[w.heap.size]? = some (.cells #[.bool false] 4) := (hBm.block _ (by omega)).trans ((hB2.block _ (by omega)).trans br)
    have bn1 : (modesW W0).heap[w2.heap.size]? = some (.cells #[.int .i64 0] 3) := (hBm.block _ (by omega)).trans bn
    have bl1 : (modesW W0).heap[w2.heap.size + 1]? = some (.cells #[.int .i64 (-1)] 3) := (hBm.block _ (by omega)).trans bl
    have hst := modes_stops Fence.wide 9 trivial rfl (by omega) W0
    have hB1 : Below w.heap.size w (modesW W0) := by
      have a : Below w.heap.size w (w.alloc (.cells #[.bool false] 4)) := (Below.refl _ w).alloc (Nat.le_refl _) _
      exact a.trans ((hB2.mono (by omega)).trans (hBm.mono (by omega)))
    rw [hz] at hst
    rw [hW0]
    generalize modesW W0 = W1 at *
    generalize w2.heap.size = g at *
    clear bn bl br hB2 hBm hW0 k12 k1 k2 MY DS
    gi_wp2
    have cr : W1.cell? ⟨w.heap.size, 0, none⟩ = some (.bool false) := by simp [World.cell?, br1]
    have fr : W1.frozen? ⟨w.heap.size, 0, none⟩ = false := by simp [World.frozen?, br1]
    have cn : W1.cell? ⟨g, 0, none⟩ = some (.int .i64 0) := by simp [World.cell?, bn1]
    have fn : W1.frozen? ⟨g, 0, none⟩ = false := by simp [World.frozen?, bn1]
    have cl : W1.cell? ⟨g + 1, 0, none⟩ = some (.int .i64 (-1)) := by simp [World.cell?, bl1]
    have fl : W1.frozen? ⟨g + 1, 0, none⟩ = false := by simp [World.frozen?, bl1]
    clear br1 bn1 bl1
    refine wpIn_rangeFunc_ownG rfl (by omega) (gf := 33) (lb := #[.pointer (some ⟨g + 1 + 1 + 1, 0, none⟩)]) rfl trivial (enters_of Try.func33 (by kernel_rfl) rfl)
      hst (fun h k => h.trans k) (rk_b (by omega)) (Below.refl _ _) (fun _ => rfl)
      (fun pre W => ((W.cell? ⟨w.heap.size, 0, none⟩ = some (.bool false) ∧ W.frozen? ⟨w.heap.size, 0, none⟩ = false) ∧ (W.cell? ⟨g, 0, none⟩ = some (.int .i64 pre.length) ∧ W.frozen? ⟨g, 0, none⟩ = false) ∧ W.cell? ⟨g + 1, 0, none⟩ = some (.int .i64 (lastOf pre)) ∧ W.frozen? ⟨g + 1, 0, none⟩ = false) ∧ Below w.heap.size w W)
      (fun c pre W => ∃ ini x, pre = ini ++ [x] ∧ x ≤ lastOf ini)
      (OwnFrom.and (Own.from (fun s A B row hs hg hr => ⟨⟨cell_kept hs.1.1 hg hr, (frozen_kept hs.1.1 hg hr).trans hs.1.2⟩, ⟨cell_kept hs.2.1.1 hg hr, (frozen_kept hs.2.1.1 hg hr).trans hs.2.1.2⟩, cell_kept hs.2.2.1 hg hr, (frozen_kept hs.2.2.1 hg hr).trans hs.2.2.2⟩) _) (ownFrom_below (Nat.le_refl _) (by omega)))
      (fun c => Own.from (fun s A B row hs hg hr => hs) _)
      ⟨⟨⟨cr, fr⟩, ⟨cn, fn⟩, cl, fl⟩, hB1⟩
      (fun x => { tmps := #[.int .i64 m, .int .i64 s, undef, undef, .pointer (some ⟨w.heap.size, 0, none⟩), .bool true, .pointer (some ⟨g, 0, none⟩), .pointer (some ⟨g + 1, 0, none⟩), .func (Fn.func 33) #[] #[.pointer (some ⟨g + 1 + 1 + 1, 0, none⟩)], .int .i64 x, .int .i64 m, .int .i64 s, .bool true, .bool true, .int .i64 m, .int .i64 s, .bool true, .bool false, .bool false, .bool true, .bool true, .int .i64 m, .bool false, .bool false, .bool false, .bool false, .bool true, .bool true, .int .i64 s, .bool true, .bool true, .bool true, .int .i64 m, .bool false, .bool false, .bool false, .func (Fn.func 33) #[] #[.pointer (some ⟨g + 1 + 1 + 1, 0, none⟩)], .func (Fn.func 33) #[] #[.pointer (some ⟨g + 1 + 1 + 1, 0, none⟩)], .bool false, .func (Fn.func 33) #[] #[.pointer (some ⟨g + 1 + 1 + 1, 0, none⟩)], .int .i64 x, undef, undef, undef, undef, undef, undef, undef, undef, undef, undef, undef, undef, undef, undef, undef], defers := [] }) ?assign ?body ?done ?stop
    case assign =>
      intro l x W K hK
      gi_wp2
      exact hK
    case body =>
      rintro l pre x W ⟨⟨⟨hr, hfr⟩, ⟨hn, hfn⟩, hl, hfl⟩, hB⟩ hlen
      have hl4 : pre.length < 4 := hlen
      by_cases hx : x ≤ lastOf pre
      · have e1 : decide (x ≤ lastOf pre) = true := by simpa using hx
        gi_wp2
        exact ⟨(KeepsOthers.setCell _ _ _).from _, pre, x, rfl, hx⟩
      · have e1 : decide (x ≤ lastOf pre) = false := by simpa using hx
        have hw : IntKind.i64.wrap ((pre.length : Int) + 1) = (pre.length : Int) + 1 := IntWalk.i64_in _ (by omega)
        have hn' : (W.setCell ⟨g + 1, 0, none⟩ (.int .i64 x)).cell? ⟨g, 0, none⟩ = some (.int .i64 pre.length) := by rw [World.cell?_setCell_far _ _ _ _ (by show g + 1 ≠ g; omega)]; exact hn
        gi_wp2
        have e2 : ((pre ++ [x]).length : Int) = (pre.length : Int) + 1 := by simp
        refine ⟨((KeepsOthers.setCell _ _ _).trans (KeepsOthers.setCell _ _ _)).from _, (rk_set W (by omega)).trans (rk_set _ (by omega)), ⟨⟨?_, ?_⟩, ⟨?_, ?_⟩, ?_, ?_⟩, (hB.setCell (p := ⟨g + 1, 0, none⟩) (by show w.heap.size ≤ g + 1; omega) _).setCell (p := ⟨g, 0, none⟩) (by show w.heap.size ≤ g; omega) _⟩
        · rw [World.cell?_setCell_far _ _ _ _ (by show g ≠ w.heap.size; omega), World.cell?_setCell_far _ _ _ _ (by show g + 1 ≠ w.heap.size; omega)]; exact hr
        · rw [World.frozen?_setCell, World.frozen?_setCell]; exact hfr
        · rw [World.cell?_setCell_same' _ _ _ (by rw [hn']; rfl), e2]
        · rw [World.frozen?_setCell, World.frozen?_setCell]; exact hfn
        · rw [World.cell?_setCell_far _ _ _ _ (by show g ≠ g + 1; omega), World.cell?_setCell_same' _ _ _ (by rw [hl]; rfl), lastOf_snoc]
        · rw [World.frozen?_setCell, World.frozen?_setCell]; exact hfl
    case done =>
      rintro D ys W hD rfl ⟨⟨⟨hr, hfr⟩, ⟨hn, hfn⟩, hl, hfl⟩, hB⟩ hK
      have hn4 : W.cell? ⟨g, 0, none⟩ = some (.int .i64 4) := hn
      have hl4 : W.cell? ⟨g + 1, 0, none⟩ = some (.int .i64 127) := hl
      gi_wp2_with (refine ⟨trivial, ?_⟩; gi_at_call 8; refine (callsIn_wide.2 (live_c _)).mono ?_; rintro e w5 ⟨rfl, k5⟩; have hn5 := k5.cell hn4; have hl5 := k5.cell hl4; have hr5 := k5.cell hr; have hb5 := k5.block w.heap.size (World.block_lt_of_cell? W ⟨w.heap.size, 0, none⟩ hr); have hf5 : w5.frozen? ⟨w.heap.size, 0, none⟩ = false := (by simp only [World.frozen?, hb5]; exact hfr))
      have hK5 : w5.heap[D]? = some (.deferred (some [])) := (k5.block D (Array.getElem?_eq_some_iff.1 hK).1).trans hK
      have hK' := (KeepsOthers.setCell w5 ⟨w.heap.size, 0, none⟩ (.bool true)).same D _ hK5 rfl
      refine ⟨by simp, .inl ⟨_, _, rfl, run_takeDeferred hK', ?_⟩⟩
      have hc5 := cell_kept (World.cell?_setCell_same' w5 ⟨w.heap.size, 0, none⟩ (.bool true) (by rw [hr5]; rfl)) (grownBy_putObj' _ D (.deferred none)) (fun r e => by cases e; exact ⟨_, hK', rfl⟩)
      have k5' : Below W.heap.size W w5 := k5
      refine ⟨.bool true, ?_, rfl, ((hB.trans (k5'.mono hB.size)).setCell (p := ⟨w.heap.size, 0, none⟩) (Nat.le_refl _) _).trans (belowK_b (w := w) (Nat.le_refl _) _ D _ _ (by omega) hK' rfl rfl)⟩
      simp [results, Try.f6, go_sem, hc5]
    case stop =>
      rintro D c pre W hD hpre ⟨ini, x, rfl, hx⟩ hK
      have := modes_up hpre
      omega

theorem services_entry (v0 v1 : Value) (W : World) {base : Nat} (h0 : Rd Try.prog W 3 v0.cells.toList) (o0 : Value.okWide Try.prog W .any base 3 v0)
    (h1 : Rd Try.prog W 3 v1.cells.toList) (o1 : Value.okWide Try.prog W .any base 3 v1) :
    Calls Try.prog 6 #[v0, v1] W fun e w' => e = .returned (.bool true) ∧ Below W.heap.size W w' := by
  obtain ⟨m, rfl, _⟩ := opn_int Try.underlying3 h0 o0
  obtain ⟨s, rfl, _⟩ := opn_int Try.underlying3 h1 o1
  exact callsIn_wide.1 (services_in m s W)

end Go.Proofs.Yteflckedfnflpaa
