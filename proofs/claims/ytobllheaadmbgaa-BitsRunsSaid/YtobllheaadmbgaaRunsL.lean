/- The law BitsRuns: the walk. -/
import Derived.Test.YtobllheaadmbgaaRuns
import Derived.Test.YtobllheaadmbgaaLaws
import Derived.RangeFuncNested
import Derived.Deep.RegionHeld
set_option linter.unusedSimpArgs false
set_option linter.unusedVariables false
set_option linter.unnecessarySimpa false
namespace Go.Proofs.Ytobllheaadmbgaa
open Go.RowKit Go.Shelf
attribute [local go_sem] Oper.semAt_some
theorem eq_nilfunc (f : Fn) (x y : Array Value) (w : World) : (binOp .eql 41 (.func f x y) .nilFunc).run Try.prog w = .ok (.bool false) w := by
  kernel_rfl
attribute [local go_sem] eq_nilfunc
/-- No runs. -/
def NoRn (l : List Int) (pre : List (Int × Int)) : Prop := ¬ ∃ a c, Rn l pre a c
theorem run_bad {l : List Int} {pre : List (Int × Int)} {a : Nat} {last c n : Int} (h : Rn l pre a last) (hb : n < 1 ∨ (l.length : Int) - a < n ∨ c = last ∨ 1 < c ∨ ∃ i : Nat, (i : Int) < n ∧ l.getD (a + i) 0 % 2 ≠ c) : NoRn l (pre ++ [(c, n)]) := by
  rintro ⟨a', c', k⟩
  obtain ⟨a2, last2, m, k1, e, k2, k3, k4, k5, k6, _⟩ := k.inv
  obtain ⟨rfl, rfl⟩ := h.same k1
  injection e with e1 e2
  subst e1
  subst e2
  rcases hb with hb | hb | hb | hb | ⟨i, hi, hb⟩
  · omega
  · omega
  · exact k4 hb
  · omega
  · exact hb (k6 i (by omega))

set_option maxRecDepth 100000 in
set_option maxHeartbeats 2000000 in
theorem runs_law (A : Option Addr) (bl o cap : Nat) (xs : List Int) (most : Int) (w : World) (hby : Byt xs) (hl0 : xs.length ≤ 9223372036854775000) (hlc : xs.length ≤ cap) (hm0 : 0 ≤ most) (hm1 : most ≤ 255)
    (hbl : bl < w.heap.size ∨ bl = w.heap.size + 6) (hA : 0 < xs.length → A = some ⟨bl, o, none⟩ ∧ bl < w.heap.size) (hc : ∀ j, j < xs.length → w.cell? ⟨bl, o + j, none⟩ = some (.int .u8 (xs.getD j 0))) :
    CallsIn Fence.wide 10 Try.prog 6 #[.slice A xs.length cap, .int .u8 most] w fun e W' => e = .returned (.bool true) ∧ Below w.heap.size w W' := by
  refine callsIn_of_wp_marks Try.func6 rfl trivial ?_ rfl
  simp only [Try.ntmps6, List.size_toArray, List.length_cons, List.length_nil, Nat.reduceAdd, Nat.reduceSub, Array.replicate_succ, Array.replicate_zero, List.push_toArray, List.append_toArray, List.nil_append, List.cons_append]
  gi_wp2_with (refine ⟨trivial, ?_⟩; gi_at_call 20; refine (runs_in 9 _ _ _ _).mono ?_; rintro e w' ⟨rfl, rfl⟩)
  have h0 : Blk (((((((w.alloc (.cells #[.slice A xs.length cap] 22)).alloc (.cells #[.int .u8 most] 5)).alloc (.cells #[.bool false] 4)).alloc (.cells #[.int .i64 0] 3)).alloc (.cells #[.int .u8 2] 5)).alloc (.cells #[.int .i64 0] 3)).alloc (.cells #[.slice A xs.length cap] 22)) (w.heap.size) #[.slice A xs.length cap] 22 := by
    have h := ((((((Blk.new w #[.slice A xs.length cap] 22).alloc (.cells #[.int .u8 most] 5)).alloc (.cells #[.bool false] 4)).alloc (.cells #[.int .i64 0] 3)).alloc (.cells #[.int .u8 2] 5)).alloc (.cells #[.int .i64 0] 3)).alloc (.cells #[.slice A xs.length cap] 22)
    exact h
  have h1 : Blk (((((((w.alloc (.cells #[.slice A xs.length cap] 22)).alloc (.cells #[.int .u8 most] 5)).alloc (.cells #[.bool false] 4)).alloc (.cells #[.int .i64 0] 3)).alloc (.cells #[.int .u8 2] 5)).alloc (.cells #[.int .i64 0] 3)).alloc (.cells #[.slice A xs.length cap] 22)) (w.heap.size + 1) #[.int .u8 most] 5 := by
    have h := (((((Blk.new (w.alloc (.cells #[.slice A xs.length cap] 22)) #[.int .u8 most] 5).alloc (.cells #[.bool false] 4)).alloc (.cells #[.int .i64 0] 3)).alloc (.cells #[.int .u8 2] 5)).alloc (.cells #[.int .i64 0] 3)).alloc (.cells #[.slice A xs.length cap] 22)
    simpa only [World.size_alloc] using h
  have h2 : Blk (((((((w.alloc (.cells #[.slice A xs.length cap] 22)).alloc (.cells #[.int .u8 most] 5)).alloc (.cells #[.bool false] 4)).alloc (.cells #[.int .i64 0] 3)).alloc (.cells #[.int .u8 2] 5)).alloc (.cells #[.int .i64 0] 3)).alloc (.cells #[.slice A xs.length cap] 22)) (w.heap.size + 1 + 1) #[.bool false] 4 := by
    have h := ((((Blk.new ((w.alloc (.cells #[.slice A xs.length cap] 22)).alloc (.cells #[.int .u8 most] 5)) #[.bool false] 4).alloc (.cells #[.int .i64 0] 3)).alloc (.cells #[.int .u8 2] 5)).alloc (.cells #[.int .i64 0] 3)).alloc (.cells #[.slice A xs.length cap] 22)
    simpa only [World.size_alloc] using h
  have h3 : Blk (((((((w.alloc (.cells #[.slice A xs.length cap] 22)).alloc (.cells #[.int .u8 most] 5)).alloc (.cells #[.bool false] 4)).alloc (.cells #[.int .i64 0] 3)).alloc (.cells #[.int .u8 2] 5)).alloc (.cells #[.int .i64 0] 3)).alloc (.cells #[.slice A xs.length cap] 22)) (w.heap.size + 1 + 1 + 1) #[.int .i64 0] 3 := by
    have h := (((Blk.new (((w.alloc (.cells #[.slice A xs.length cap] 22)).alloc (.cells #[.int .u8 most] 5)).alloc (.cells #[.bool false] 4)) #[.int .i64 0] 3).alloc (.cells #[.int .u8 2] 5)).alloc (.cells #[.int .i64 0] 3)).alloc (.cells #[.slice A xs.length cap] 22)
    simpa only [World.size_alloc] using h
  have h4 : Blk (((((((w.alloc (.cells #[.slice A xs.length cap] 22)).alloc (.cells #[.int .u8 most] 5)).alloc (.cells #[.bool false] 4)).alloc (.cells #[.int .i64 0] 3)).alloc (.cells #[.int .u8 2] 5)).alloc (.cells #[.int .i64 0] 3)).alloc (.cells #[.slice A xs.length cap] 22)) (w.heap.size + 1 + 1 + 1 + 1) #[.int .u8 2] 5 := by
    have h := ((Blk.new ((((w.alloc (.cells #[.slice A xs.length cap] 22)).alloc (.cells #[.int .u8 most] 5)).alloc (.cells #[.bool false] 4)).alloc (.cells #[.int .i64 0] 3)) #[.int .u8 2] 5).alloc (.cells #[.int .i64 0] 3)).alloc (.cells #[.slice A xs.length cap] 22)
    simpa only [World.size_alloc] using h
  have h5 : Blk (((((((w.alloc (.cells #[.slice A xs.length cap] 22)).alloc (.cells #[.int .u8 most] 5)).alloc (.cells #[.bool false] 4)).alloc (.cells #[.int .i64 0] 3)).alloc (.cells #[.int .u8 2] 5)).alloc (.cells #[.int .i64 0] 3)).alloc (.cells #[.slice A xs.length cap] 22)) (w.heap.size + 1 + 1 + 1 + 1 + 1) #[.int .i64 0] 3 := by
    have h := (Blk.new (((((w.alloc (.cells #[.slice A xs.length cap] 22)).alloc (.cells #[.int .u8 most] 5)).alloc (.cells #[.bool false] 4)).alloc (.cells #[.int .i64 0] 3)).alloc (.cells #[.int .u8 2] 5)) #[.int .i64 0] 3).alloc (.cells #[.slice A xs.length cap] 22)
    simpa only [World.size_alloc] using h
  have h6 : Blk (((((((w.alloc (.cells #[.slice A xs.length cap] 22)).alloc (.cells #[.int .u8 most] 5)).alloc (.cells #[.bool false] 4)).alloc (.cells #[.int .i64 0] 3)).alloc (.cells #[.int .u8 2] 5)).alloc (.cells #[.int .i64 0] 3)).alloc (.cells #[.slice A xs.length cap] 22)) (w.heap.size + 1 + 1 + 1 + 1 + 1 + 1) #[.slice A xs.length cap] 22 := by
    have h := Blk.new ((((((w.alloc (.cells #[.slice A xs.length cap] 22)).alloc (.cells #[.int .u8 most] 5)).alloc (.cells #[.bool false] 4)).alloc (.cells #[.int .i64 0] 3)).alloc (.cells #[.int .u8 2] 5)).alloc (.cells #[.int .i64 0] 3)) #[.slice A xs.length cap] 22
    simpa only [World.size_alloc] using h
  have hB1 : Below w.heap.size w (((((((w.alloc (.cells #[.slice A xs.length cap] 22)).alloc (.cells #[.int .u8 most] 5)).alloc (.cells #[.bool false] 4)).alloc (.cells #[.int .i64 0] 3)).alloc (.cells #[.int .u8 2] 5)).alloc (.cells #[.int .i64 0] 3)).alloc (.cells #[.slice A xs.length cap] 22)) := by
    have h0 := Below.refl w.heap.size w
    exact ((((((h0.alloc (Nat.le_refl _) _).alloc (by simp) _).alloc (by simp; omega) _).alloc (by simp; omega) _).alloc (by simp; omega) _).alloc (by simp; omega) _).alloc (by simp; omega) _
  have hz : (((((((w.alloc (.cells #[.slice A xs.length cap] 22)).alloc (.cells #[.int .u8 most] 5)).alloc (.cells #[.bool false] 4)).alloc (.cells #[.int .i64 0] 3)).alloc (.cells #[.int .u8 2] 5)).alloc (.cells #[.int .i64 0] 3)).alloc (.cells #[.slice A xs.length cap] 22)).heap.size = w.heap.size + 7 := by simp
  generalize (((((((w.alloc (.cells #[.slice A xs.length cap] 22)).alloc (.cells #[.int .u8 most] 5)).alloc (.cells #[.bool false] 4)).alloc (.cells #[.int .i64 0] 3)).alloc (.cells #[.int .u8 2] 5)).alloc (.cells #[.int .i64 0] 3)).alloc (.cells #[.slice A xs.length cap] 22)) = W1 at *
  have cb := h0.cell 0 _ rfl
  have cm := h1.cell 0 _ rfl
  have cr := h2.cell 0 _ rfl
  have fr := h2.free 0
  have ca := h3.cell 0 _ rfl
  have fa := h3.free 0
  have cl := h4.cell 0 _ rfl
  have fl := h4.free 0
  have cs := h5.cell 0 _ rfl
  have fs := h5.free 0
  have cB := h6.cell 0 _ rfl
  have hst := runs_stops 9 (by omega) (w.heap.size + 1 + 1 + 1 + 1 + 1 + 1) bl o cap A xs hby hl0 hlc W1 (by omega) (fun h => ⟨(hA h).1, by have := (hA h).2; omega⟩) cB (fun j hj => (hB1.cell (p := ⟨bl, o + j, none⟩) (hA (by omega)).2).trans (hc j hj))
  clear h0 h1 h2 h3 h4 h5 h6
  refine wpIn_rangeFunc_ownG rfl (by omega) (gf := 28) (lb := #[.pointer (some ⟨w.heap.size + 1 + 1 + 1 + 1 + 1 + 1, 0, none⟩)]) rfl trivial (enters_of Try.func28 (by kernel_rfl) rfl)
    hst (fun h k => ⟨h.1.trans k.1, h.2.trans k.2⟩) (fun W l o o' h1 h2 h3 h4 => ⟨rk_b (by omega) W l o o' h1 h2 h3 h4, rk_b (by omega) W l o o' h1 h2 h3 h4⟩) (Below.refl _ _) (fun _ => rfl)
    (fun pre W => (∃ (a : Nat) (last : Int), Rn xs pre a last ∧ W.cell? ⟨w.heap.size, 0, none⟩ = some (.slice A xs.length cap) ∧ W.cell? ⟨w.heap.size + 1, 0, none⟩ = some (.int .u8 most) ∧ (W.cell? ⟨w.heap.size + 1 + 1, 0, none⟩ = some (.bool false) ∧ W.frozen? ⟨w.heap.size + 1 + 1, 0, none⟩ = false) ∧ (W.cell? ⟨w.heap.size + 1 + 1 + 1, 0, none⟩ = some (.int .i64 a) ∧ W.frozen? ⟨w.heap.size + 1 + 1 + 1, 0, none⟩ = false) ∧ (W.cell? ⟨w.heap.size + 1 + 1 + 1 + 1, 0, none⟩ = some (.int .u8 last) ∧ W.frozen? ⟨w.heap.size + 1 + 1 + 1 + 1, 0, none⟩ = false) ∧ W.cell? ⟨w.heap.size + 1 + 1 + 1 + 1 + 1, 0, none⟩ = some (.int .i64 0) ∧ W.frozen? ⟨w.heap.size + 1 + 1 + 1 + 1 + 1, 0, none⟩ = false) ∧ Below w.heap.size w W)
    (fun c pre W => NoRn xs pre)
    (OwnFrom.and (Own.from (fun s A B row hs hg hr => by
      obtain ⟨a, last, h1, h2, h3, ⟨h4, h4'⟩, ⟨h5, h5'⟩, ⟨h6, h6'⟩, h7, h7'⟩ := hs
      exact ⟨a, last, h1, cell_kept h2 hg hr, cell_kept h3 hg hr, ⟨cell_kept h4 hg hr, (frozen_kept h4 hg hr).trans h4'⟩, ⟨cell_kept h5 hg hr, (frozen_kept h5 hg hr).trans h5'⟩, ⟨cell_kept h6 hg hr, (frozen_kept h6 hg hr).trans h6'⟩, cell_kept h7 hg hr, (frozen_kept h7 hg hr).trans h7'⟩) _) (ownFrom_below (Nat.le_refl _) (by omega)))
    (fun c => Own.from (fun s A B row hs hg hr => hs) _)
    ⟨⟨0, 2, .nil, cb, cm, ⟨cr, fr⟩, ⟨ca, fa⟩, ⟨cl, fl⟩, cs, fs⟩, hB1⟩
    (fun x => { tmps := #[.slice A xs.length cap, .int .u8 most, .pointer (some ⟨w.heap.size, 0, none⟩), .pointer (some ⟨w.heap.size + 1, 0, none⟩), .pointer (some ⟨w.heap.size + 1 + 1, 0, none⟩), .pointer (some ⟨w.heap.size + 1 + 1 + 1, 0, none⟩), .pointer (some ⟨w.heap.size + 1 + 1 + 1 + 1, 0, none⟩), .pointer (some ⟨w.heap.size + 1 + 1 + 1 + 1 + 1, 0, none⟩), .func (Fn.func 28) #[] #[.pointer (some ⟨w.heap.size + 1 + 1 + 1 + 1 + 1 + 1, 0, none⟩)], .int .u8 x.1, .int .i64 x.2, undef, undef, .slice A xs.length cap, .func (Fn.func 28) #[] #[.pointer (some ⟨w.heap.size + 1 + 1 + 1 + 1 + 1 + 1, 0, none⟩)], .func (Fn.func 28) #[] #[.pointer (some ⟨w.heap.size + 1 + 1 + 1 + 1 + 1 + 1, 0, none⟩)], .bool false, .func (Fn.func 28) #[] #[.pointer (some ⟨w.heap.size + 1 + 1 + 1 + 1 + 1 + 1, 0, none⟩)], .int .u8 x.1, .int .i64 x.2, undef, undef, undef, undef, undef, undef, undef, undef, undef, undef, undef, undef, undef, undef, undef, undef, undef, undef, undef, undef, undef, undef, undef, undef, undef, undef, undef, undef, undef, undef, undef, undef, undef, undef, undef, undef, undef, undef, undef, undef, undef, undef, undef, undef, undef, undef, undef, undef, undef, undef, undef, undef, undef, undef, undef, undef, undef, undef, undef, undef, undef, undef, undef], defers := [] }) ?assign ?body ?done ?stop
  case assign =>
    intro l x W K hK
    gi_wp2
    exact hK
  case body =>
    rintro l pre ⟨c, n⟩ W ⟨⟨a, last, hrn, hb, hm, ⟨hr, hfr⟩, ⟨ha, hfa⟩, ⟨hla, hfl⟩, hs, hfs⟩, hB⟩ _
    dsimp only
    have hal := hrn.len
    have hwl : IntKind.i64.wrap ((xs.length : Int) - (a : Int)) = (xs.length : Int) - (a : Int) := IntWalk.i64_in _ (by omega)
    by_cases q1 : n < 1
    · have e1 : decide (n < 1) = true := by simpa using q1
      gi_wp2
      exact ⟨(KeepsOthers.setCell _ _ _).from _, run_bad hrn (.inl q1)⟩
    have e1 : decide (n < 1) = false := by simpa using q1
    by_cases q2 : (xs.length : Int) - a < n
    · have e2 : decide ((xs.length : Int) - a < n) = true := by simpa using q2
      gi_wp2
      exact ⟨(KeepsOthers.setCell _ _ _).from _, run_bad hrn (.inr (.inl q2))⟩
    have e2 : decide ((xs.length : Int) - a < n) = false := by simp; omega
    by_cases q3 : c = last
    · have e3 : (c == last) = true := by simpa using q3
      gi_wp2
      exact ⟨(KeepsOthers.setCell _ _ _).from _, run_bad hrn (.inr (.inr (.inl (by first | exact q3 | rfl))))⟩
    have e3 : (c == last) = false := by simpa using q3
    by_cases q4 : 1 < c
    · have e4 : decide (1 < c) = true := by simpa using q4
      gi_wp2
      exact ⟨(KeepsOthers.setCell _ _ _).from _, run_bad hrn (.inr (.inr (.inr (.inl q4))))⟩
    have e4 : decide (1 < c) = false := by simpa using q4
    obtain ⟨N, rfl⟩ := Int.eq_ofNat_of_zero_le (show 0 ≤ n by omega)
    obtain ⟨rfl, hblz⟩ := hA (by omega)
    gi_wp2
    gi_loopw [11] (fun u11 wr => ∃ i : Nat, u11 = .int .i64 i ∧ i ≤ N ∧ (∀ j, j < i → xs.getD (a + j) 0 % 2 = c) ∧ wr = W)
      (fun u11 _ => N - (intOf u11).toNat)
    case atStart => exact ⟨0, rfl, by omega, fun j hj => absurd hj (by omega), rfl⟩
    case round =>
      obtain ⟨i, rfl, hiN, hall, rfl⟩ := hrel
      by_cases hi : i < N
      · have e5 : decide ((i : Int) < (N : Int)) = true := by simp; omega
        have cx := (hB.cell (p := ⟨bl, o + (a + i), none⟩) hblz).trans (hc (a + i) (by omega))
        have hyx := hby.at (i := a + i) (by omega)
        have hwi : IntKind.i64.wrap ((a : Int) + (i : Int)) = ((a + i : Nat) : Int) := by rw [IntWalk.i64_in _ (by omega)]; simp
        have s0 : (0 : Int) ≤ ((a + i : Nat) : Int) := by omega
        have s1 : ((a + i : Nat) : Int) < (xs.length : Int) := by omega
        obtain ⟨y, hyy⟩ : ∃ y, xs.getD (a + i) 0 = y := ⟨_, rfl⟩
        rw [hyy] at cx hyx
        have HY := hid hyy
        by_cases hq : y % 2 = c
        · have e6 : (y % 2 != c) = false := by simpa using hq
          gi_wp2
          go_roundw
          case rel => exact ⟨i + 1, by simp, by omega, (fun j hj => by
            by_cases h : j < i
            · exact hall j h
            · have : j = i := by omega
              subst this
              rw [HY.out]
              exact hq), by first | rfl | trivial⟩
          case measure => simp [intOf]; omega
        · have e6 : (y % 2 != c) = true := by simpa using hq
          gi_wp2
          exact ⟨(KeepsOthers.setCell _ _ _).from _, run_bad hrn (.inr (.inr (.inr (.inr ⟨i, by omega, by rw [HY.out]; exact hq⟩))))⟩
      · have hiN' : i = N := by omega
        subst hiN'
        have e5 : decide ((i : Int) < (i : Int)) = false := by simp
        have hwn : IntKind.i64.wrap ((a : Int) + (i : Int)) = ((a + i : Nat) : Int) := by rw [IntWalk.i64_in _ (by omega)]; simp
        gi_wp2
        have hsn := Rn.snoc (n := i) hrn (by omega) (by omega) q3 (by omega) hall
        have h4' : (wr.setCell ⟨w.heap.size + 1 + 1 + 1, 0, none⟩ (.int .i64 ((a : Int) + (i : Int)))).cell? ⟨w.heap.size + 1 + 1 + 1 + 1, 0, none⟩ = some (.int .u8 last) := by rw [World.cell?_setCell_far _ _ _ _ (by show w.heap.size + 1 + 1 + 1 ≠ w.heap.size + 1 + 1 + 1 + 1; omega)]; exact hla
        refine ⟨((KeepsOthers.setCell _ _ _).trans (KeepsOthers.setCell _ _ _)).from _, ⟨(rk_set _ (by omega)).trans (rk_set _ (by omega)), (rk_set _ (by omega)).trans (rk_set _ (by omega))⟩, ⟨a + i, c, hsn, ?_, ?_, ⟨?_, ?_⟩, ⟨?_, ?_⟩, ⟨?_, ?_⟩, ?_, ?_⟩, (hB.setCell (p := ⟨w.heap.size + 1 + 1 + 1, 0, none⟩) (by show w.heap.size ≤ w.heap.size + 1 + 1 + 1; omega) _).setCell (p := ⟨w.heap.size + 1 + 1 + 1 + 1, 0, none⟩) (by show w.heap.size ≤ w.heap.size + 1 + 1 + 1 + 1; omega) _⟩
        · rw [World.cell?_setCell_far _ _ _ _ (by show w.heap.size + 1 + 1 + 1 + 1 ≠ w.heap.size; omega), World.cell?_setCell_far _ _ _ _ (by show w.heap.size + 1 + 1 + 1 ≠ w.heap.size; omega)]; exact hb
        · rw [World.cell?_setCell_far _ _ _ _ (by show w.heap.size + 1 + 1 + 1 + 1 ≠ w.heap.size + 1; omega), World.cell?_setCell_far _ _ _ _ (by show w.heap.size + 1 + 1 + 1 ≠ w.heap.size + 1; omega)]; exact hm
        · rw [World.cell?_setCell_far _ _ _ _ (by show w.heap.size + 1 + 1 + 1 + 1 ≠ w.heap.size + 1 + 1; omega), World.cell?_setCell_far _ _ _ _ (by show w.heap.size + 1 + 1 + 1 ≠ w.heap.size + 1 + 1; omega)]; exact hr
        · rw [World.frozen?_setCell, World.frozen?_setCell]; exact hfr
        · rw [World.cell?_setCell_far _ _ _ _ (by show w.heap.size + 1 + 1 + 1 + 1 ≠ w.heap.size + 1 + 1 + 1; omega), World.cell?_setCell_same' _ _ _ (by rw [ha]; rfl)]; simp
        · rw [World.frozen?_setCell, World.frozen?_setCell]; exact hfa
        · rw [World.cell?_setCell_same' _ _ _ (by rw [h4']; rfl)]
        · rw [World.frozen?_setCell, World.frozen?_setCell]; exact hfl
        · rw [World.cell?_setCell_far _ _ _ _ (by show w.heap.size + 1 + 1 + 1 + 1 ≠ w.heap.size + 1 + 1 + 1 + 1 + 1; omega), World.cell?_setCell_far _ _ _ _ (by show w.heap.size + 1 + 1 + 1 ≠ w.heap.size + 1 + 1 + 1 + 1 + 1; omega)]; exact hs
        · rw [World.frozen?_setCell, World.frozen?_setCell]; exact hfs
  case done =>
    rintro D ys W hD ⟨cc, hrn0⟩ ⟨⟨a, last, hrn, hb, hm, ⟨hr, hfr⟩, ⟨ha, hfa⟩, ⟨hla, hfl⟩, hs, hfs⟩, hB⟩ hK
    obtain ⟨rfl, rfl⟩ := hrn.same hrn0
    gi_wp2_with (refine ⟨trivial, ?_⟩; gi_at_call 20; refine (runs_in 9 _ _ _ _).mono ?_; rintro e w' ⟨rfl, rfl⟩)
    have hzW : w.heap.size + 7 ≤ W.heap.size := by
      have h := (Array.getElem?_eq_some_iff.1 hK).1
      omega
    have hDlt : D < W.heap.size := (Array.getElem?_eq_some_iff.1 hK).1
    have hE : Below W.heap.size W (W.alloc (.cells #[.slice A xs.length cap] 22)) := (Below.refl _ W).alloc (Nat.le_refl _) _
    have hB2 := hB.trans (hE.mono (by omega))
    have cB2 : (W.alloc (.cells #[.slice A xs.length cap] 22)).cell? ⟨W.heap.size, 0, none⟩ = some (.slice A xs.length cap) := (Blk.new W #[.slice A xs.length cap] 22).cell 0 _ rfl
    have hz2 : (W.alloc (.cells #[.slice A xs.length cap] 22)).heap.size = W.heap.size + 1 := by simp
    have hb2 := (hE.cell (p := ⟨w.heap.size, 0, none⟩) (by show w.heap.size < _; omega)).trans hb
    have hm2 := (hE.cell (p := ⟨w.heap.size + 1, 0, none⟩) (by show w.heap.size + 1 < _; omega)).trans hm
    have hr2 := (hE.cell (p := ⟨w.heap.size + 1 + 1, 0, none⟩) (by show w.heap.size + 1 + 1 < _; omega)).trans hr
    have ha2 := (hE.cell (p := ⟨w.heap.size + 1 + 1 + 1, 0, none⟩) (by show w.heap.size + 1 + 1 + 1 < _; omega)).trans ha
    have hs2 := (hE.cell (p := ⟨w.heap.size + 1 + 1 + 1 + 1 + 1, 0, none⟩) (by show w.heap.size + 1 + 1 + 1 + 1 + 1 < _; omega)).trans hs
    have hfr2 : (W.alloc (.cells #[.slice A xs.length cap] 22)).frozen? ⟨w.heap.size + 1 + 1, 0, none⟩ = false := by
      have e := hE.block (w.heap.size + 1 + 1) (by omega)
      simp only [World.frozen?, e]
      exact hfr
    have hfs2 : (W.alloc (.cells #[.slice A xs.length cap] 22)).frozen? ⟨w.heap.size + 1 + 1 + 1 + 1 + 1, 0, none⟩ = false := by
      have e := hE.block (w.heap.size + 1 + 1 + 1 + 1 + 1) (by omega)
      simp only [World.frozen?, e]
      exact hfs
    have hK2 : (W.alloc (.cells #[.slice A xs.length cap] 22)).heap[D]? = some (.deferred (some [])) := (hE.block D hDlt).trans hK
    have hst2 := runs_stops 9 (by omega) W.heap.size (if bl = w.heap.size + 6 then W.heap.size else bl) o cap A xs hby hl0 hlc _ (by simp) (fun h => ⟨by rw [if_neg (by have := (hA h).2; omega)]; exact (hA h).1, by rw [if_neg (by have := (hA h).2; omega)]; have := (hA h).2; omega⟩) cB2 (fun j hj => by
      rw [if_neg (by have := (hA (by omega)).2; omega)]
      exact (hB2.cell (p := ⟨bl, o + j, none⟩) (hA (by omega)).2).trans (hc j hj))
    obtain ⟨b2, hbb2⟩ : ∃ b2, (if bl = w.heap.size + 6 then W.heap.size else bl) = b2 := ⟨_, rfl⟩
    rw [hbb2] at hst2
    have hbb : b2 < w.heap.size ∨ b2 = W.heap.size := by
      rw [← hbb2]
      split
      · exact .inr rfl
      · exact .inl (by omega)
    clear hb hm hr ha hla hs hfr hfa hfl hfs hbb2
    generalize hW2 : (W.alloc (.cells #[.slice A xs.length cap] 22)) = W2 at *
    refine wpIn_rangeFunc_ownG rfl (by omega) (gf := 28) (lb := #[.pointer (some ⟨W.heap.size, 0, none⟩)]) rfl trivial (enters_of Try.func28 (by kernel_rfl) rfl)
      hst2 (fun h k => ⟨h.1.trans k.1, h.2.trans k.2⟩) (fun W l o o' h1 h2 h3 h4 => ⟨rk_b (by omega) W l o o' h1 h2 h3 h4, rk_b (by omega) W l o o' h1 h2 h3 h4⟩) (Below.refl _ _) (fun _ => rfl)
      (fun pre W => (∃ sn : Int, sn = pre.length ∧ sn ≤ most ∧ W.cell? ⟨w.heap.size, 0, none⟩ = some (.slice A xs.length cap) ∧ W.cell? ⟨w.heap.size + 1, 0, none⟩ = some (.int .u8 most) ∧ (W.cell? ⟨w.heap.size + 1 + 1, 0, none⟩ = some (.bool false) ∧ W.frozen? ⟨w.heap.size + 1 + 1, 0, none⟩ = false) ∧ W.cell? ⟨w.heap.size + 1 + 1 + 1, 0, none⟩ = some (.int .i64 xs.length) ∧ W.cell? ⟨w.heap.size + 1 + 1 + 1 + 1 + 1, 0, none⟩ = some (.int .i64 sn) ∧ W.frozen? ⟨w.heap.size + 1 + 1 + 1 + 1 + 1, 0, none⟩ = false) ∧ Below w.heap.size w W ∧ W.heap[D]? = some (.deferred (some [])))
      (fun c pre W => c = .exit 4 ∧ (∃ sn : Int, sn ≤ most ∧ W.cell? ⟨w.heap.size, 0, none⟩ = some (.slice A xs.length cap) ∧ W.cell? ⟨w.heap.size + 1, 0, none⟩ = some (.int .u8 most) ∧ (W.cell? ⟨w.heap.size + 1 + 1, 0, none⟩ = some (.bool false) ∧ W.frozen? ⟨w.heap.size + 1 + 1, 0, none⟩ = false) ∧ W.cell? ⟨w.heap.size + 1 + 1 + 1, 0, none⟩ = some (.int .i64 xs.length) ∧ W.cell? ⟨w.heap.size + 1 + 1 + 1 + 1 + 1, 0, none⟩ = some (.int .i64 sn) ∧ W.frozen? ⟨w.heap.size + 1 + 1 + 1 + 1 + 1, 0, none⟩ = false) ∧ Below w.heap.size w W ∧ W.heap[D]? = some (.deferred (some [])))
      ?own ?ownx ⟨⟨0, rfl, hm0, hb2, hm2, ⟨hr2, hfr2⟩, ha2, hs2, hfs2⟩, hB2, hK2⟩
      (fun x => { tmps := #[.slice A xs.length cap, .int .u8 most, .pointer (some ⟨w.heap.size, 0, none⟩), .pointer (some ⟨w.heap.size + 1, 0, none⟩), .pointer (some ⟨w.heap.size + 1 + 1, 0, none⟩), .pointer (some ⟨w.heap.size + 1 + 1 + 1, 0, none⟩), .pointer (some ⟨w.heap.size + 1 + 1 + 1 + 1, 0, none⟩), .pointer (some ⟨w.heap.size + 1 + 1 + 1 + 1 + 1, 0, none⟩), .func (Fn.func 28) #[] #[.pointer (some ⟨w.heap.size + 1 + 1 + 1 + 1 + 1 + 1, 0, none⟩)], undef, undef, undef, .func (Fn.func 28) #[] #[.pointer (some ⟨W.heap.size, 0, none⟩)], .slice A xs.length cap, .func (Fn.func 28) #[] #[.pointer (some ⟨w.heap.size + 1 + 1 + 1 + 1 + 1 + 1, 0, none⟩)], .func (Fn.func 28) #[] #[.pointer (some ⟨w.heap.size + 1 + 1 + 1 + 1 + 1 + 1, 0, none⟩)], .bool false, .func (Fn.func 28) #[] #[.pointer (some ⟨w.heap.size + 1 + 1 + 1 + 1 + 1 + 1, 0, none⟩)], undef, undef, undef, undef, undef, undef, undef, undef, undef, undef, undef, undef, undef, undef, undef, undef, undef, undef, undef, undef, undef, undef, undef, undef, undef, undef, undef, undef, undef, undef, undef, undef, undef, undef, undef, undef, undef, undef, undef, .slice A xs.length cap, .func (Fn.func 28) #[] #[.pointer (some ⟨W.heap.size, 0, none⟩)], .func (Fn.func 28) #[] #[.pointer (some ⟨W.heap.size, 0, none⟩)], .bool false, .func (Fn.func 28) #[] #[.pointer (some ⟨W.heap.size, 0, none⟩)], .int .u8 x.1, .int .i64 x.2, undef, undef, undef, undef, undef, undef, undef, undef, undef, undef, undef, undef, undef, undef, undef, undef, undef, undef, undef], defers := [] }) ?assign2 ?body2 ?done2 ?stop2
    case assign2 =>
      intro l x W K hK
      gi_wp2
      exact hK
    case own =>
      exact OwnFrom.and (Own.from (fun s A B row hs hg hr => by
        obtain ⟨sn, h0, h1, h2, h3, ⟨h4, h4'⟩, h5, h6, h6'⟩ := hs
        exact ⟨sn, h0, h1, cell_kept h2 hg hr, cell_kept h3 hg hr, ⟨cell_kept h4 hg hr, (frozen_kept h4 hg hr).trans h4'⟩, cell_kept h5 hg hr, cell_kept h6 hg hr, (frozen_kept h6 hg hr).trans h6'⟩) _) (OwnFrom.and (ownFrom_below (Nat.le_refl _) (by omega)) (fun _ X Y row hs hg hr => (hg.block D (Array.getElem?_eq_some_iff.1 hs).1 (fun e => by have := (hr D e.symm).1; omega)).trans hs))
    case ownx =>
      exact fun c => OwnFrom.and (ownFrom_pure _ (fun _ => c = .exit 4)) (OwnFrom.and (Own.from (fun s A B row hs hg hr => by
        obtain ⟨sn, h1, h2, h3, ⟨h4, h4'⟩, h5, h6, h6'⟩ := hs
        exact ⟨sn, h1, cell_kept h2 hg hr, cell_kept h3 hg hr, ⟨cell_kept h4 hg hr, (frozen_kept h4 hg hr).trans h4'⟩, cell_kept h5 hg hr, cell_kept h6 hg hr, (frozen_kept h6 hg hr).trans h6'⟩) _) (OwnFrom.and (ownFrom_below (Nat.le_refl _) (by omega)) (fun _ X Y row hs hg hr => (hg.block D (Array.getElem?_eq_some_iff.1 hs).1 (fun e => by have := (hr D e.symm).1; omega)).trans hs)))
    case body2 =>
      rintro l pre x V ⟨⟨sn, hsn, hle, hb, hm, ⟨hr, hfr⟩, ha, hs, hfs⟩, hBV, hKV⟩ _
      have hn0 : 0 ≤ sn := by rw [hsn]; omega
      have HSN := hid hsn
      clear hsn
      by_cases hq : sn = most
      · have e1 : (sn == most) = true := by simpa using hq
        have HX := hid (And.intro (⟨sn, hle, hb, hm, ⟨hr, hfr⟩, ha, hs, hfs⟩ : ∃ sn : Int, sn ≤ most ∧ V.cell? ⟨w.heap.size, 0, none⟩ = some (.slice A xs.length cap) ∧ V.cell? ⟨w.heap.size + 1, 0, none⟩ = some (.int .u8 most) ∧ (V.cell? ⟨w.heap.size + 1 + 1, 0, none⟩ = some (.bool false) ∧ V.frozen? ⟨w.heap.size + 1 + 1, 0, none⟩ = false) ∧ V.cell? ⟨w.heap.size + 1 + 1 + 1, 0, none⟩ = some (.int .i64 xs.length) ∧ V.cell? ⟨w.heap.size + 1 + 1 + 1 + 1 + 1, 0, none⟩ = some (.int .i64 sn) ∧ V.frozen? ⟨w.heap.size + 1 + 1 + 1 + 1 + 1, 0, none⟩ = false) (And.intro hBV hKV))
        gi_wp2
        exact ⟨KeepsFrom.refl _ _, rfl, HX.out⟩
      · have e1 : (sn == most) = false := by simpa using hq
        have hw : IntKind.i64.wrap (sn + 1) = sn + 1 := IntWalk.i64_in _ (by omega)
        gi_wp2
        refine ⟨(KeepsOthers.setCell _ _ _).from _, ⟨rk_set _ (by omega), rk_set _ (by omega)⟩, ⟨sn + 1, by rw [HSN.out]; simp, by omega, ?_, ?_, ⟨?_, ?_⟩, ?_, ?_, ?_⟩, hBV.setCell (p := ⟨w.heap.size + 1 + 1 + 1 + 1 + 1, 0, none⟩) (by show w.heap.size ≤ w.heap.size + 1 + 1 + 1 + 1 + 1; omega) _, (Below.heap_setCell _ _ _ _ (by show D ≠ w.heap.size + 1 + 1 + 1 + 1 + 1; omega)).trans hKV⟩
        · rw [World.cell?_setCell_far _ _ _ _ (by show w.heap.size + 1 + 1 + 1 + 1 + 1 ≠ w.heap.size; omega)]; exact hb
        · rw [World.cell?_setCell_far _ _ _ _ (by show w.heap.size + 1 + 1 + 1 + 1 + 1 ≠ w.heap.size + 1; omega)]; exact hm
        · rw [World.cell?_setCell_far _ _ _ _ (by show w.heap.size + 1 + 1 + 1 + 1 + 1 ≠ w.heap.size + 1 + 1; omega)]; exact hr
        · rw [World.frozen?_setCell]; exact hfr
        · rw [World.cell?_setCell_far _ _ _ _ (by show w.heap.size + 1 + 1 + 1 + 1 + 1 ≠ w.heap.size + 1 + 1 + 1; omega)]; exact ha
        · rw [World.cell?_setCell_same' _ _ _ (by rw [hs]; rfl)]
        · rw [World.frozen?_setCell]; exact hfs
    case done2 =>
      rintro D2 ys V hD2 _ ⟨⟨sn, -, hle, hb, hm, ⟨hr, hfr⟩, ha, hs, hfs⟩, hBV, hKV⟩ hK2'
      have e1 : decide (sn ≤ most) = true := by simpa using hle
      have e2 : ((xs.length : Int) == (xs.length : Int)) = true := by simp
      gi_wp2_with (refine ⟨trivial, ?_⟩; gi_at_call 9; refine (callsIn_wide.2 (live_c _)).mono ?_; rintro e w5 ⟨rfl, k5⟩; have hb5 := k5.cell hb; have hm5 := k5.cell hm; have ha5 := k5.cell ha; have hs5 := k5.cell hs; have hr5 := k5.cell hr; have hbk := k5.block (w.heap.size + 1 + 1) (World.block_lt_of_cell? V ⟨w.heap.size + 1 + 1, 0, none⟩ hr); have hf5 : w5.frozen? ⟨w.heap.size + 1 + 1, 0, none⟩ = false := (by simp only [World.frozen?, hbk]; exact hfr))
      have hKa : w5.heap[D]? = some (.deferred (some [])) := (k5.block D (Array.getElem?_eq_some_iff.1 hKV).1).trans hKV
      have hKb : w5.heap[D2]? = some (.deferred (some [])) := (k5.block D2 (Array.getElem?_eq_some_iff.1 hK2').1).trans hK2'
      have hKa' := (KeepsOthers.setCell w5 ⟨w.heap.size + 1 + 1, 0, none⟩ (.bool true)).same D _ hKa rfl
      have hKb' := (KeepsOthers.setCell w5 ⟨w.heap.size + 1 + 1, 0, none⟩ (.bool true)).same D2 _ hKb rfl
      have hKa2 := ((grownBy_putObj' (w5.setCell ⟨w.heap.size + 1 + 1, 0, none⟩ (.bool true)) D2 (.deferred none)).block D (Array.getElem?_eq_some_iff.1 hKa').1 (fun e => by cases e; omega)).trans hKa'
      refine ⟨by simp, .inl ⟨_, _, rfl, run_takeDeferred hKb', ?_⟩⟩
      refine ⟨by simp, .inl ⟨_, _, rfl, run_takeDeferred hKa2, ?_⟩⟩
      have hc5 := cell_kept (cell_kept (World.cell?_setCell_same' w5 ⟨w.heap.size + 1 + 1, 0, none⟩ (.bool true) (by rw [hr5]; rfl)) (grownBy_putObj' _ D2 (.deferred none)) (fun r e => by cases e; exact ⟨_, hKb', rfl⟩)) (grownBy_putObj' _ D (.deferred none)) (fun r e => by cases e; exact ⟨_, hKa2, rfl⟩)
      have k5' : Below V.heap.size V w5 := k5
      refine ⟨.bool true, ?_, rfl, (((hBV.trans (k5'.mono hBV.size)).setCell (p := ⟨w.heap.size + 1 + 1, 0, none⟩) (by show w.heap.size ≤ w.heap.size + 1 + 1; omega) _).trans (belowK_b (w := w) (Nat.le_refl _) _ D2 _ _ (by omega) hKb' rfl rfl)).trans (belowK_b (w := w) (Nat.le_refl _) _ D _ _ (by omega) hKa2 rfl rfl)⟩
      simp [results, Try.f6, go_sem, hc5]
    case stop2 =>
      rintro D2 c pre V hD2 _ ⟨rfl, ⟨sn, hle, hb, hm, ⟨hr, hfr⟩, ha, hs, hfs⟩, hBV, hKV⟩ hK2'
      have e1 : decide (sn ≤ most) = true := by simpa using hle
      have e2 : ((xs.length : Int) == (xs.length : Int)) = true := by simp
      gi_wp2_with (refine ⟨trivial, ?_⟩; gi_at_call 9; refine (callsIn_wide.2 (live_c _)).mono ?_; rintro e w5 ⟨rfl, k5⟩; have hb5 := k5.cell hb; have hm5 := k5.cell hm; have ha5 := k5.cell ha; have hs5 := k5.cell hs; have hr5 := k5.cell hr; have hbk := k5.block (w.heap.size + 1 + 1) (World.block_lt_of_cell? V ⟨w.heap.size + 1 + 1, 0, none⟩ hr); have hf5 : w5.frozen? ⟨w.heap.size + 1 + 1, 0, none⟩ = false := (by simp only [World.frozen?, hbk]; exact hfr))
      have hKa : w5.heap[D]? = some (.deferred (some [])) := (k5.block D (Array.getElem?_eq_some_iff.1 hKV).1).trans hKV
      have hKb : w5.heap[D2]? = some (.deferred (some [])) := (k5.block D2 (Array.getElem?_eq_some_iff.1 hK2').1).trans hK2'
      have hKa' := (KeepsOthers.setCell w5 ⟨w.heap.size + 1 + 1, 0, none⟩ (.bool true)).same D _ hKa rfl
      have hKb' := (KeepsOthers.setCell w5 ⟨w.heap.size + 1 + 1, 0, none⟩ (.bool true)).same D2 _ hKb rfl
      have hKa2 := ((grownBy_putObj' (w5.setCell ⟨w.heap.size + 1 + 1, 0, none⟩ (.bool true)) D2 (.deferred none)).block D (Array.getElem?_eq_some_iff.1 hKa').1 (fun e => by cases e; omega)).trans hKa'
      refine ⟨by simp, .inl ⟨_, _, rfl, run_takeDeferred hKb', ?_⟩⟩
      refine ⟨by simp, .inl ⟨_, _, rfl, run_takeDeferred hKa2, ?_⟩⟩
      have hc5 := cell_kept (cell_kept (World.cell?_setCell_same' w5 ⟨w.heap.size + 1 + 1, 0, none⟩ (.bool true) (by rw [hr5]; rfl)) (grownBy_putObj' _ D2 (.deferred none)) (fun r e => by cases e; exact ⟨_, hKb', rfl⟩)) (grownBy_putObj' _ D (.deferred none)) (fun r e => by cases e; exact ⟨_, hKa2, rfl⟩)
      have k5' : Below V.heap.size V w5 := k5
      refine ⟨.bool true, ?_, rfl, (((hBV.trans (k5'.mono hBV.size)).setCell (p := ⟨w.heap.size + 1 + 1, 0, none⟩) (by show w.heap.size ≤ w.heap.size + 1 + 1; omega) _).trans (belowK_b (w := w) (Nat.le_refl _) _ D2 _ _ (by omega) hKb' rfl rfl)).trans (belowK_b (w := w) (Nat.le_refl _) _ D _ _ (by omega) hKa2 rfl rfl)⟩
      simp [results, Try.f6, go_sem, hc5]
  case stop =>
    rintro D c pre W hD hpre hno hK
    exact absurd hpre hno

end Go.Proofs.Ytobllheaadmbgaa
