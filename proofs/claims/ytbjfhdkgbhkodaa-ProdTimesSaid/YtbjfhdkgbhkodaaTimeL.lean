/- ProdTimes: what its maker does from tick to tick; rows of ints of the law's own. -/
import Derived.Test.YtbjfhdkgbhkodaaPApart
import Derived.Test.YtbjfhdkgbhkodaaPStepsL
import Derived.Test.YtbjfhdkgbhkodaaOwnR
import Derived.Test.YtbjfhdkgbhkodaaTimes
import Derived.Test.YtbjfhdkgbhkodaaRange
set_option linter.unusedSimpArgs false
set_option linter.unusedVariables false
set_option linter.unnecessarySimpa false
namespace Go.Proofs.Ytbjfhdkgbhkodaa
open Go.RowKit Go.Proofs.YtbjfhdkgbhkodaaW.PrintWords

theorem snd_in {x : Ch} (h : x.snd = true) : x.at 0 = 1 ∧ 1 ≤ x.at 1 ∧ x.at 1 ≤ 65535 ∧ 1 ≤ x.sz ∧ x.sz ≤ 8 ∧ (0 ≤ x.at 3 ∧ x.at 3 ≤ 2047) ∧ 0 ≤ x.at 4 ∧ x.at 4 ≤ 2047 := by
  unfold Ch.snd sndB idB at h
  simp only [Bool.and_eq_true, decide_eq_true_iff] at h
  exact h
/-- What the law knows of its maker when i ticks are over and m pairs have gone. -/
def TI (x : Ch) (fr : Int) (i : Nat) (k : Mk) (m : Nat) : Prop :=
  (x.snd = false → m = 0) ∧ (x.snd = true → (m = 0 → i = 0 ∧ k.works = false) ∧
    (0 < m → k.works = true ∧ k.x = x ∧ k.last = tk fr (x.at 1) (m - 1) ∧ tk fr (x.at 1) (m - 1) < fr + i ∧ fr + i ≤ tk fr (x.at 1) m))
theorem TI.start (x : Ch) (fr : Int) : TI x fr 0 Mk.zero 0 := ⟨fun _ => rfl, fun _ => ⟨fun _ => ⟨rfl, rfl⟩, fun h => absurd h (by omega)⟩⟩
theorem tk_zero (fr T : Int) : tk fr T 0 = fr := by unfold tk; simp
theorem TI.step {x : Ch} {fr : Int} {i : Nat} {k : Mk} {m : Nat} (h : TI x fr i k m) (hf : 0 ≤ fr) (hi : fr + i ≤ 2147483647) {l : List Int} (hl : (l.length : Int) = min x.sz 8) (hk0 : 0 ≤ k.last ∧ k.last ≤ fr + i) (hs0 : 0 ≤ k.sent ∧ k.sent ≤ i) :
    (0 ≤ (k.step (fr + i) true x l).1.last ∧ (k.step (fr + i) true x l).1.last ≤ fr + ((i + 1 : Nat) : Int)) ∧ (0 ≤ (k.step (fr + i) true x l).1.sent ∧ (k.step (fr + i) true x l).1.sent ≤ ((i + 1 : Nat) : Int)) ∧
    (((k.step (fr + i) true x l).2 = [] ∧ TI x fr (i + 1) (k.step (fr + i) true x l).1 m) ∨
      ((k.step (fr + i) true x l).2 = two x l ∧ x.snd = true ∧ fr + i = tk fr (x.at 1) m ∧ TI x fr (i + 1) (k.step (fr + i) true x l).1 (m + 1))) := by
  have ht : tkB (fr + i) = true := tkB_in (by omega) hi
  cases hs : x.snd
  · have e : k.step (fr + i) true x l = (⟨false, k.x, k.last, k.sent⟩, []) := by
      unfold Mk.step goes; rw [ht, hs]; rfl
    rw [e]
    refine ⟨⟨hk0.1, by show k.last ≤ _; omega⟩, ⟨hs0.1, by show k.sent ≤ _; omega⟩, .inl ⟨rfl, fun _ => h.1 hs, fun h' => ?_⟩⟩
    rw [hs] at h'
    cases h'
  · obtain ⟨_, t1, t2, z1, z2, _, _⟩ := snd_in hs
    have hln : (l.length : Int) = x.sz := by omega
    obtain ⟨g1, g2⟩ := h.2 hs
    cases hd : k.due (fr + i) x
    · rw [step_wait (by omega) hi hs hln hd]
      unfold Mk.due at hd
      simp only [Bool.or_eq_false_iff, Bool.not_eq_false', decide_eq_false_iff_not] at hd
      obtain ⟨d1, d2, d3⟩ := hd
      by_cases hm : m = 0
      · have := (g1 hm).2
        rw [d1] at this
        cases this
      · obtain ⟨q1, q2, q3, q4, q5⟩ := g2 (by omega)
        have hsu : tk fr (x.at 1) m = tk fr (x.at 1) (m - 1) + x.at 1 := by
          have := tk_succ fr (x.at 1) (m - 1)
          rwa [show m - 1 + 1 = m by omega] at this
        refine ⟨⟨hk0.1, by show k.last ≤ _; omega⟩, ⟨hs0.1, by show k.sent ≤ _; omega⟩, .inl ⟨rfl, fun h' => (by rw [hs] at h'; cases h'), fun _ => ⟨fun h' => absurd h' hm, fun _ => ⟨q1, q2, q3, by omega, ?_⟩⟩⟩⟩
        rw [hsu] at q5 ⊢
        rw [q3] at d3
        omega
    · rw [step_due (by omega) hi hs hln hd]
      have key : fr + i = tk fr (x.at 1) m := by
        by_cases hm : m = 0
        · subst hm
          rw [(g1 rfl).1, tk_zero]
          simp
        · obtain ⟨q1, q2, q3, q4, q5⟩ := g2 (by omega)
          have hsu : tk fr (x.at 1) m = tk fr (x.at 1) (m - 1) + x.at 1 := by
            have := tk_succ fr (x.at 1) (m - 1)
            rwa [show m - 1 + 1 = m by omega] at this
          unfold Mk.due at hd
          rw [q1, q2, chEq_refl, q3] at hd
          have hd' : x.at 1 ≤ fr + i - tk fr (x.at 1) (m - 1) := by simpa using hd
          omega
      refine ⟨⟨by show 0 ≤ fr + (i : Int); omega, by show fr + (i : Int) ≤ _; omega⟩, ⟨by show 0 ≤ k.sent + 1; omega, by show k.sent + 1 ≤ _; omega⟩, .inr ⟨rfl, rfl, key, fun h' => (by rw [hs] at h'; cases h'), fun _ => ⟨fun h' => absurd h' (by omega), fun _ => ⟨rfl, rfl, ?_, ?_, ?_⟩⟩⟩⟩
      · show fr + (i : Int) = _
        rw [key]; rfl
      · rw [show m + 1 - 1 = m by omega, ← key]; omega
      · rw [tk_succ, ← key]; omega
theorem tk_mono {fr T : Int} (hT : 0 ≤ T) {a b : Nat} (h : a ≤ b) : tk fr T a ≤ tk fr T b := by
  have := Int.mul_le_mul_of_nonneg_right (show (a : Int) ≤ b by omega) hT
  unfold tk
  omega
/-- Where an iterator that tells the ticks up to the last one stands. -/
theorem TI.next {x : Ch} {fr : Int} {L : Nat} {k : Mk} {m : Nat} (h : TI x fr L k m) (hs : x.snd = true) {n : Nat} {y : Int} (hn : n ≤ m) (hy : ∃ q, upto (tk fr (x.at 1)) n ++ [y] = upto (tk fr (x.at 1)) q ∧ ∀ j, j < q → tk fr (x.at 1) j ≤ fr + L - 1) : n < m ∧ y = tk fr (x.at 1) n := by
  obtain ⟨q, e, hq⟩ := hy
  have hl := congrArg List.length e
  simp only [List.length_append, upto_length, List.length_singleton] at hl
  subst hl
  rw [upto_succ] at e
  have e2 := List.append_cancel_left e
  injection e2 with e2 _
  refine ⟨?_, e2⟩
  have h1 := hq n (by omega)
  by_cases hm : n = m
  · subst hm
    exfalso
    by_cases h0 : n = 0
    · have := ((h.2 hs).1 h0).1
      subst h0 this
      rw [tk_zero] at h1
      simp at h1
      omega
    · have := ((h.2 hs).2 (by omega)).2.2.2.2
      omega
  · omega
theorem TI.all {x : Ch} {fr : Int} {L : Nat} {k : Mk} {m : Nat} (h : TI x fr L k m) {n : Nat} (hn : n ≤ m)
    (hy : (x.snd = true ∧ ∃ q, upto (tk fr (x.at 1)) n = upto (tk fr (x.at 1)) q ∧ (∀ j, j < q → tk fr (x.at 1) j ≤ fr + L - 1) ∧ fr + L - 1 < tk fr (x.at 1) q) ∨ (x.snd = false ∧ upto (tk fr (x.at 1)) n = [])) : n = m := by
  rcases hy with ⟨hs, q, e, _, h2⟩ | ⟨hs, _⟩
  · have hl := congrArg List.length e
    simp only [upto_length] at hl
    subst hl
    by_cases hm : n = m
    · exact hm
    · exfalso
      obtain ⟨_, _, _, q4, _⟩ := (h.2 hs).2 (by omega)
      have := tk_mono (fr := fr) (T := x.at 1) (by have := (snd_in hs).2.1; omega) (show n ≤ m - 1 by omega)
      omega
  · have := h.1 hs
    omega
theorem TI.some {x : Ch} {fr : Int} {L : Nat} {k : Mk} {m : Nat} (h : TI x fr L k m) : (decide (0 < (m : Int)) == (x.snd && decide (0 < (L : Int)))) = true := by
  cases hs : x.snd
  · rw [h.1 hs]; rfl
  · obtain ⟨g1, g2⟩ := h.2 hs
    by_cases hm : m = 0
    · rw [(g1 hm).1, hm]; rfl
    · obtain ⟨_, _, _, q4, _⟩ := g2 (by omega)
      have h0 := tk_mono (fr := fr) (T := x.at 1) (by have := (snd_in hs).2.1; omega) (show 0 ≤ m - 1 by omega)
      rw [tk_zero] at h0
      have e1 : decide (0 < (m : Int)) = true := by simp; omega
      have e2 : decide (0 < (L : Int)) = true := by simp; omega
      rw [e1, e2]
      rfl

/-- A row of ints. -/
def LI : Lay Int where
  T := 3
  S := 45
  k := 1
  bytes := 8
  z := .int .i64 0
  enc := fun a => [.int .i64 a]
  len := fun _ => rfl
  one := fun a u hu => by
    have : u = .int .i64 a := by simpa using hu
    subst this
    rfl
  under := Try.underlying45
  info := by kernel_rfl
  hz := rfl
  hk := by omega
  hb := by omega
theorem OwnR.only {α : Type} {L : Lay α} {w w' : World} {base b : Nat} {v : Value} {l : List α} {t : TypeId} {cs : Array Value} (h : OwnR L w base v l) (k : Only b w w') (hb : Blk w b cs t) (ht : t ≠ L.T) : OwnR L w' base v l := by
  have hap := h.apart hb ht
  obtain ⟨h0, h⟩ := h
  refine ⟨h0, ?_⟩
  rcases h with h | ⟨g, cap, cur, rfl, hg, hh, r⟩
  · exact .inl h
  · exact .inr ⟨g, cap, cur, rfl, hg, Blk.kept hh k (fun e => hap (by subst e; rfl)), r⟩

/-- Eight bytes. -/
def b8 (l : List Int) : List Value := l.map (.int .u8)
def B8 (l : List Int) : Prop := l.length = 8 ∧ Byt l
theorem dec_b8 {W : World} (es : List Value) (hl : es.length = 8) (h : Rd Try.prog W 34 es) : ∃ l, b8 l = es ∧ B8 l := by
  have key : ∀ j, j < 8 → ∃ n, es[j]? = some (.int .u8 n) ∧ (Lit.int .u8 n).wf = true := fun j hj => h.elemInt Try.underlying34 Try.underlying5 (by kernel_rfl) j hj
  obtain ⟨d0, e0, g0⟩ := key 0 (by omega)
  obtain ⟨d1, e1, g1⟩ := key 1 (by omega)
  obtain ⟨d2, e2, g2⟩ := key 2 (by omega)
  obtain ⟨d3, e3, g3⟩ := key 3 (by omega)
  obtain ⟨d4, e4, g4⟩ := key 4 (by omega)
  obtain ⟨d5, e5, g5⟩ := key 5 (by omega)
  obtain ⟨d6, e6, g6⟩ := key 6 (by omega)
  obtain ⟨d7, e7, g7⟩ := key 7 (by omega)
  refine ⟨[d0, d1, d2, d3, d4, d5, d6, d7], ?_, rfl, ?_⟩
  · obtain ⟨a0, a1, a2, a3, a4, a5, a6, a7, rfl⟩ : ∃ a0 a1 a2 a3 a4 a5 a6 a7, es = [a0, a1, a2, a3, a4, a5, a6, a7] := by
      rcases es with _ | ⟨a0, _ | ⟨a1, _ | ⟨a2, _ | ⟨a3, _ | ⟨a4, _ | ⟨a5, _ | ⟨a6, _ | ⟨a7, _ | _⟩⟩⟩⟩⟩⟩⟩⟩ <;> simp at hl
      exact ⟨_, _, _, _, _, _, _, _, rfl⟩
    simp at e0 e1 e2 e3 e4 e5 e6 e7
    simp [b8, e0, e1, e2, e3, e4, e5, e6, e7]
  · intro x hx
    simp only [List.mem_cons, List.not_mem_nil, or_false] at hx
    rcases hx with rfl | rfl | rfl | rfl | rfl | rfl | rfl | rfl
    all_goals (first | exact wf_u8 g0 | exact wf_u8 g1 | exact wf_u8 g2 | exact wf_u8 g3 | exact wf_u8 g4 | exact wf_u8 g5 | exact wf_u8 g6 | exact wf_u8 g7)
theorem b8_bs {w : World} {bl o : Nat} {l : List Int} (h : ∀ j v, (b8 l)[j]? = some v → w.cell? ⟨bl, o + j, none⟩ = some v) (hb : bl < w.heap.size) (ho : B8 l) {n : Nat} (hn : n ≤ 8) : Bs w (.slice (some ⟨bl, o, none⟩) n 8) (l.take n) := by
  have hl : l.length = 8 := ho.1
  refine Bs.of_row (bl := bl) (o := o) (by rw [List.length_take]; omega) hn ⟨by rw [List.length_take]; omega, fun _ => ⟨rfl, hb⟩, fun i hi => ?_⟩ (ho.2.take n)
  rw [List.length_take] at hi
  rw [List.getD_eq_getElem?_getD, List.getElem?_take_of_lt (by omega), ← List.getD_eq_getElem?_getD]
  refine h i _ ?_
  unfold b8
  rw [List.getElem?_map, List.getD_eq_getElem?_getD, List.getElem?_eq_getElem (by omega)]
  rfl

/-- A row of frames: its first fields, and whole. -/
theorem OwnF.ids {w : World} {base : Nat} {v : Value} {l : List Fr} (h : OwnF w base v l) (hl : l ≠ []) : ∃ g c, v = .slice (some ⟨g, 0, none⟩) l.length c ∧ (∀ (i : Nat) (f : Fr), l[i]? = some f → ∀ x : After w, (ldF (.pointer (some ⟨g, i * 11, none⟩))).run Try.prog x.wd = .ok f.val x.wd) ∧
    ∀ (i : Nat) (f : Fr), l[i]? = some f → w.cell? ⟨g, i * 11, none⟩ = some (.int .i64 f.id) := by
  obtain ⟨g, c, e, _, hh⟩ := h.frs hl
  refine ⟨g, c, e, fun i f hi x => hh i f hi x.wd x.ext, fun i f hi => ?_⟩
  rcases h.2 with ⟨h1, h2⟩ | ⟨g', cap, cur, rfl, _, hb, _, _, _, ht⟩
  · exact absurd (List.eq_nil_of_length_eq_zero h2) hl
  · injection e with e1 _ _
    injection e1 with e1
    injection e1 with e1 _ _
    subst e1
    have h1 := fcs_at l i 0 f (.int .i64 f.id) hi rfl
    rw [← ht, List.getElem?_take] at h1
    split at h1
    · exact Blk.cell hb (i * 11) _ (by simpa using h1)
    · cases h1

/-- What stands while the iterators run. -/
def SQ (x : Ch) (stop fr : Int) (V : Value) (m xb stb rb ab ra B : Nat) (W : World) : Prop :=
  (Blk W xb x.cells CT ∧ xb < B) ∧ (Blk W stb #[.int .u8 stop] U8 ∧ stb < B) ∧ (Blk W rb #[.bool false] 4 ∧ rb < B) ∧ (Blk W ab #[V] 45 ∧ ab < B) ∧
    ∀ j, j < m → W.cell? ⟨ra, j, none⟩ = some (.int .i64 (tk fr (x.at 1) j)) ∧ ra < B
theorem SQ.ext {x : Ch} {stop fr : Int} {V : Value} {m xb stb rb ab ra B : Nat} {a b : World} (h : SQ x stop fr V m xb stb rb ab ra B a) (k : Ext a b) : SQ x stop fr V m xb stb rb ab ra B b :=
  ⟨⟨k.blk h.1.1, h.1.2⟩, ⟨k.blk h.2.1.1, h.2.1.2⟩, ⟨k.blk h.2.2.1.1, h.2.2.1.2⟩, ⟨k.blk h.2.2.2.1.1, h.2.2.2.1.2⟩, fun j hj => ⟨k.cell (h.2.2.2.2 j hj).1, (h.2.2.2.2 j hj).2⟩⟩
theorem SQ.kept {x : Ch} {stop fr : Int} {V : Value} {m xb stb rb ab ra B : Nat} {a b : World} {row : Option Nat} (h : SQ x stop fr V m xb stb rb ab ra B a) (hg : a.grownBy b row) (hr : ∀ r, row = some r → ∃ o : Obj, a.heap[r]? = some o ∧ o.isCells = false) : SQ x stop fr V m xb stb rb ab ra B b :=
  ⟨⟨blk_kept h.1.1 hg hr, h.1.2⟩, ⟨blk_kept h.2.1.1 hg hr, h.2.1.2⟩, ⟨blk_kept h.2.2.1.1 hg hr, h.2.2.1.2⟩, ⟨blk_kept h.2.2.2.1.1 hg hr, h.2.2.2.1.2⟩, fun j hj => ⟨cell_kept (h.2.2.2.2 j hj).1 hg hr, (h.2.2.2.2 j hj).2⟩⟩
theorem SQ.set {x : Ch} {stop fr : Int} {V : Value} {m xb stb rb ab ra B g i : Nat} {a : World} {v : Value} (h : SQ x stop fr V m xb stb rb ab ra B a) (hg : B ≤ g) : SQ x stop fr V m xb stb rb ab ra B (a.setCell ⟨g, i, none⟩ v) := by
  obtain ⟨⟨h1, g1⟩, ⟨h2, g2⟩, ⟨h3, g3⟩, ⟨h4, g4⟩, h5⟩ := h
  refine ⟨⟨h1.other _ _ (by show xb ≠ g; omega), g1⟩, ⟨h2.other _ _ (by show stb ≠ g; omega), g2⟩, ⟨h3.other _ _ (by show rb ≠ g; omega), g3⟩, ⟨h4.other _ _ (by show ab ≠ g; omega), g4⟩, fun j hj => ⟨?_, (h5 j hj).2⟩⟩
  rw [World.cell?_setCell_far _ _ _ _ (by show g ≠ ra; have := (h5 j hj).2; omega)]
  exact (h5 j hj).1
/-- Not the ticks up to the last one, nor their beginning. -/
def NoT (fr T to_ : Int) (pre : List Int) : Prop := ¬ ∃ q, pre = upto (tk fr T) q ∧ ∀ j, j < q → tk fr T j ≤ to_

theorem Ext.trans_b {a b c : World} (h : Ext a b) (k : Below a.heap.size b c) : Ext a c := Below.trans h k

end Go.Proofs.Ytbjfhdkgbhkodaa
