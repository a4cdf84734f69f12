/- BitsTurns: bits that are turned. -/
import Derived.Test.YtobllheaadmbgaaEntry
import Derived.Test.YtobllheaadmbgaaTurn
set_option linter.unusedSimpArgs false
set_option linter.unusedVariables false
set_option linter.unnecessarySimpa false
namespace Go.Proofs.Ytobllheaadmbgaa
open Go.RowKit Go.Proofs.YtobllheaadmbgaaW.PrintWords Go.ChangeShapes Go.WideShapes Go.ChangeAt
attribute [local go_sem] max2_max min2_min max_of_two min_of_two

/-- A slice of ints that may be read. -/
def Is64 (w : World) (v : Value) (l : List Int) : Prop := ∃ A bl o c, v = .slice A l.length c ∧ l.length ≤ c ∧ Row64 w A bl o l
theorem Row64.ext {a b : World} {A : Option Addr} {bl o : Nat} {l : List Int} (h : Row64 a A bl o l) (k : Ext a b) : Row64 b A bl o l :=
  ⟨h.1, fun hn => ⟨(h.2.1 hn).1, by have := (h.2.1 hn).2; have := k.le; omega⟩, fun i hi => k.cell (h.2.2 i hi)⟩
theorem Row64.take {w : World} {A : Option Addr} {bl o : Nat} {l : List Int} (h : Row64 w A bl o l) (k : Nat) : Row64 w A bl o (l.take k) := by
  refine ⟨by have := h.1; rw [List.length_take]; omega, fun hn => h.2.1 (by rw [List.length_take] at hn; omega), fun i hi => ?_⟩
  rw [List.length_take] at hi
  have := h.2.2 i (by omega)
  rw [this, List.getD_eq_getElem?_getD, List.getD_eq_getElem?_getD, List.getElem?_take, if_pos (by omega)]
theorem Row64.cell {a b : World} {A : Option Addr} {bl o : Nat} {l : List Int} (h : Row64 a A bl o l) (k : Ext a b) {i : Nat} (hi : i < l.length) :
    A = some ⟨bl, o, none⟩ ∧ b.cell? ⟨bl, o + i, none⟩ = some (.int .i64 (l.getD i 0)) :=
  ⟨(h.2.1 (by omega)).1, k.cell (h.2.2 i hi)⟩

theorem Is64.of_row {w : World} {A : Option Addr} {bl o c n : Nat} {l : List Int} (hn : l.length = n) (hc : n ≤ c) (h : Row64 w A bl o l) : Is64 w (.slice A n c) l := by subst hn; exact ⟨A, bl, o, c, rfl, hc, h⟩

theorem turn_c (v u : Value) (l m : List Int) (w : World) (hv : Bs w v l) (hu : Is64 w u m) (hs : l.length ≤ 140737488355328) :
    Calls Try.prog 19 #[v, u] w fun e w' => ∃ v', e = .returned v' ∧ Own8 w' w.heap.size v' (turnV l m) ∧ Ext w w' := by
  obtain ⟨A, bl, o, c, rfl, hlc, hrow, hb⟩ := hv
  obtain ⟨At, blt, ot, ct, rfl, hmc, hrom⟩ := hu
  exact turn_any A bl o c l At blt ot ct m w hrow hrom hs

theorem opn_ints {W : World} {base : Nat} {v : Value} (h : Rd Try.prog W 37 v.cells.toList) (hv : Value.okWide Try.prog W .any base 37 v) : ∃ l, Is64 W v l ∧ ∀ x ∈ l, -9223372036854775808 ≤ x ∧ x ≤ 9223372036854775807 := by
  obtain ⟨A, bl, o, len, cap, rfl, hl, hc, hb, hn, hA, hi⟩ := opn_row Try.underlying37 (by rw [(by kernel_rfl : Try.prog.cellsOf 3 = 1)]; decide) h hv
  have hC : Try.prog.cellsOf 3 = 1 := by kernel_rfl
  have key : ∀ i, i < len → W.cell? ⟨bl, o + i, none⟩ = some (.int .i64 (intAt W ⟨bl, o + i, none⟩)) ∧ -9223372036854775808 ≤ intAt W ⟨bl, o + i, none⟩ ∧ intAt W ⟨bl, o + i, none⟩ ≤ 9223372036854775807 := by
    intro i hil
    obtain ⟨es, hes, hat, hrd⟩ := hi i hil
    rw [hC] at hes hat
    obtain ⟨n, hn, wn⟩ := hrd.int Try.underlying3
    subst hn
    have h1 := hat 0 (by omega)
    rw [Nat.mul_one, Nat.add_zero] at h1
    have e : intAt W ⟨bl, o + i, none⟩ = n := by simp [intAt, h1]
    rw [e]
    exact ⟨h1, wf_i64 wn⟩
  have hl2 : (bytesAt W bl o len).length = len := bytesAt_len _ _ _ _
  refine ⟨bytesAt W bl o len, ⟨A, bl, o, cap, by rw [hl2], by rw [hl2]; exact hl, ?_, ?_, ?_⟩, ?_⟩
  · rw [hl2]; unfold maxLen at hc; omega
  · rw [hl2]; exact hA
  · intro i hi
    rw [hl2] at hi
    rw [bytesAt_get _ _ _ _ _ hi]
    exact (key i hi).1
  · intro x hx
    obtain ⟨i, hi, rfl⟩ := List.mem_map.1 hx
    exact (key i (List.mem_range.1 hi)).2

def cntL (i : Int) : Int → List Int → Int
  | n, [] => n
  | n, y :: t => cntL i (if y = i then n + 1 else n) t

def Bits (x : List Int) : Prop := ∀ y ∈ x, y = 0 ∨ y = 1
theorem flip_bit {y : Int} (h : y = 0 ∨ y = 1) : flip1 y = 1 - y := by rcases h with rfl | rfl <;> decide
theorem Bits.at {x : List Int} (h : Bits x) (k : Nat) : x.getD k 0 = 0 ∨ x.getD k 0 = 1 := by
  by_cases hk : k < x.length
  · rw [getD_at hk]; exact h _ (List.getElem_mem _)
  · rw [List.getD_eq_getElem?_getD, List.getElem?_eq_none (by omega)]; exact .inl rfl
theorem Bits.turn {x : List Int} (h : Bits x) (y : Int) : Bits (turnAt x y) := by
  unfold turnAt
  split
  · intro z hz
    rcases List.mem_or_eq_of_mem_set hz with hz | rfl
    · exact h z hz
    · have := h.at y.toNat
      rw [flip_bit this]
      omega
  · exact h
theorem turn_count (i : Nat) : ∀ (m x : List Int) (n : Int), Bits x → i < x.length → x.getD i 0 = n % 2 → (m.foldl turnAt x).getD i 0 = cntL i n m % 2
  | [], x, n, hb, hi, h => h
  | y :: t, x, n, hb, hi, h => by
    rw [List.foldl_cons, cntL]
    refine turn_count i t _ _ (hb.turn y) (by rw [turnAt_len]; exact hi) ?_
    unfold turnAt
    by_cases hy : y = i
    · subst hy
      rw [if_pos ⟨by omega, by omega⟩, if_pos rfl, Int.toNat_natCast, flip_bit (hb.at i), h]
      rw [List.getD_eq_getElem?_getD, List.getElem?_set_self hi]
      simp
      omega
    · rw [if_neg hy]
      split
      · rw [List.getD_eq_getElem?_getD, List.getElem?_set_ne (by omega), ← List.getD_eq_getElem?_getD, h]
      · exact h
theorem cntL_range (i : Int) : ∀ (m : List Int) (n : Int), 0 ≤ n → 0 ≤ cntL i n m ∧ cntL i n m ≤ n + m.length
  | [], n, h => by simp [cntL, h]
  | y :: t, n, h => by
    have := cntL_range i t (if y = i then n + 1 else n) (by split <;> omega)
    rw [cntL, List.length_cons]
    split <;> simp_all <;> omega
theorem foldTurn_len : ∀ (m x : List Int), (m.foldl turnAt x).length = x.length
  | [], x => rfl
  | y :: t, x => by rw [List.foldl_cons, foldTurn_len t, turnAt_len]
theorem Bits.fold : ∀ (m x : List Int), Bits x → Bits (m.foldl turnAt x)
  | [], x, h => h
  | y :: t, x, h => Bits.fold t _ (h.turn y)

theorem plain_bits {l : List Int} (h : Byt l) : Bits (plain l) := by
  intro y hy
  obtain ⟨z, hz, rfl⟩ := List.mem_map.1 hy
  have := h z hz
  rw [and1 this.1 this.2]
  omega
theorem turnV_at {l m : List Int} (h : Byt l) {i : Nat} (hi : i < l.length) : (turnV l m).getD i 0 = cntL i (l.getD i 0) m % 2 := by
  refine turn_count i m (plain l) _ (plain_bits h) (by rw [plain_len]; exact hi) ?_
  have := h.at hi
  unfold plain
  rw [List.getD_eq_getElem?_getD, List.getElem?_map, List.getElem?_eq_getElem hi, ← getD_at hi]
  exact and1 this.1 this.2
theorem turnV_byt {l m : List Int} (h : Byt l) : Byt (turnV l m) := by
  intro y hy
  have := Bits.fold m _ (plain_bits h) y hy
  omega
theorem turnV_len (l m : List Int) : (turnV l m).length = l.length := by unfold turnV; rw [foldTurn_len, plain_len]

set_option maxHeartbeats 2000000 in
theorem turns_c (v u : Value) (l m0 : List Int) (w : World) (hv : Bs w v l) (hu : Is64 w u m0) (hm0 : ∀ x ∈ m0, -9223372036854775808 ≤ x ∧ x ≤ 9223372036854775807) :
    Calls Try.prog 5 #[v, u] w fun e w' => e = .returned (.bool true) ∧ Ext w w' := by
  have hv' := hv
  obtain ⟨A, bl, o, c, rfl, hlc, hrow, hb⟩ := hv'
  obtain ⟨At, blt, ot, ct, rfl, hmc, hrom⟩ := hu
  by_cases h1 : l.length > 100
  · go_enter Try.func5, Try.ntmps5
    go_wp2_with fail
    refine (live_c _).mono ?_
    rintro e w1 ⟨rfl, k1⟩
    go_wp2_with fail
    go_ret
    exact ⟨rfl, (by repeat (first | with_reducible exact Ext.refl _ | with_reducible assumption | with_reducible apply Ext.alloc | with_reducible apply Ext.drew | with_reducible apply Ext.drewN | (with_reducible refine Ext.set' ?_ (by first | omega | (simp only [World.size_alloc, World.size_setCell]; omega))) | (with_reducible refine Ext.trans ?_ (by with_reducible assumption))))⟩
  · obtain ⟨k, hk⟩ : ∃ k : Nat, min (m0.length : Int) 20 = k := ⟨(min (m0.length : Int) 20).toNat, by omega⟩
    have hkm : k ≤ m0.length := by omega
    have hk20 : k ≤ 20 := by omega
    have hml : (m0.take k).length = k := by rw [List.length_take]; omega
    have hrm := hrom.take k
    have hmx : ∀ x ∈ m0.take k, -9223372036854775808 ≤ x ∧ x ≤ 9223372036854775807 := fun x hx => hm0 x (List.mem_of_mem_take hx)
    generalize m0.take k = m at *
    have hkc : (k : Int) ≤ (ct : Int) := by omega
    have hk0 : (0 : Int) ≤ (k : Int) := by omega
    have HM := hid hml
    have HX := hid hmx
    clear hml hmx hm0
    go_enter Try.func5, Try.ntmps5
    go_wp2_with (at_builtin; go_must (refine app8r rfl (.tmp 19) (.tmp 20) rfl w.heap.size rfl rfl (hv.ext (by repeat (first | with_reducible exact Ext.refl _ | with_reducible assumption | with_reducible apply Ext.alloc | with_reducible apply Ext.drew | with_reducible apply Ext.drewN | (with_reducible refine Ext.set' ?_ (by first | omega | (simp only [World.size_alloc, World.size_setCell]; omega))) | (with_reducible refine Ext.trans ?_ (by with_reducible assumption))))) (own8_new w w.heap.size (Nat.le_refl _)) (by first | omega | (simp only [List.length_append, List.length_cons, List.length_nil]; omega)) (Ext.le (by repeat (first | with_reducible exact Ext.refl _ | with_reducible assumption | with_reducible apply Ext.alloc | with_reducible apply Ext.drew | with_reducible apply Ext.drewN | (with_reducible refine Ext.set' ?_ (by first | omega | (simp only [World.size_alloc, World.size_setCell]; omega))) | (with_reducible refine Ext.trans ?_ (by with_reducible assumption))))) ?_); intro v1 w1 o1 k1 kk1; have K1 : Ext w w1 := Ext.back (by repeat (first | with_reducible exact Ext.refl _ | with_reducible assumption | with_reducible apply Ext.alloc | with_reducible apply Ext.drew | with_reducible apply Ext.drewN | (with_reducible refine Ext.set' ?_ (by first | omega | (simp only [World.size_alloc, World.size_setCell]; omega))) | (with_reducible refine Ext.trans ?_ (by with_reducible assumption)))) k1; clear k1; (skip))
    rw [List.nil_append] at o1
    have b1 := Bs.own o1 hb
    have m1 : Is64 w1 (.slice At k ct) m := Is64.of_row HM.out (by omega) (hrm.ext K1)
    clear hk
    go_wp2_with fail
    (with_reducible refine (turn_c _ _ _ _ _ (hv.ext (by repeat (first | with_reducible exact Ext.refl _ | with_reducible assumption | with_reducible apply Ext.alloc | with_reducible apply Ext.drew | with_reducible apply Ext.drewN | (with_reducible refine Ext.set' ?_ (by first | omega | (simp only [World.size_alloc, World.size_setCell]; omega))) | (with_reducible refine Ext.trans ?_ (by with_reducible assumption))))) m1 (by omega)).mono ?_); rintro e w2 ⟨v2, rfl, o2, k2⟩
    have hxl := turnV_len l m
    have hxb := turnV_byt (m := m) hb
    have hat := hid (fun i (hi : i < l.length) => turnV_at (m := m) hb hi)
    have b2 := Bs.own o2 hxb
    generalize turnV l m = x at *
    obtain ⟨Ax, blx, ox, cx, rfl, hxc, hrox, _⟩ := b2
    have HXL := hid hxl
    have d1 : ((x.length : Int) == (l.length : Int)) = true := by simp; omega
    have d2 : ((x.length : Int) != (l.length : Int)) = false := by simp; omega
    clear hxl
    go_wp2_with fail
    (with_reducible refine (same_c _ _ _ _ _ (hv.ext (by repeat (first | with_reducible exact Ext.refl _ | with_reducible assumption | with_reducible apply Ext.alloc | with_reducible apply Ext.drew | with_reducible apply Ext.drewN | (with_reducible refine Ext.set' ?_ (by first | omega | (simp only [World.size_alloc, World.size_setCell]; omega))) | (with_reducible refine Ext.trans ?_ (by with_reducible assumption))))) (b1.ext (by repeat (first | with_reducible exact Ext.refl _ | with_reducible assumption | with_reducible apply Ext.alloc | with_reducible apply Ext.drew | with_reducible apply Ext.drewN | (with_reducible refine Ext.set' ?_ (by first | omega | (simp only [World.size_alloc, World.size_setCell]; omega))) | (with_reducible refine Ext.trans ?_ (by with_reducible assumption)))))).mono ?_); rintro e w3 ⟨rfl, k3⟩
    rw [beq_self_eq_true]
    have r3 := hrow.ext (b := w3) (by repeat (first | with_reducible exact Ext.refl _ | with_reducible assumption | with_reducible apply Ext.alloc | with_reducible apply Ext.drew | with_reducible apply Ext.drewN | (with_reducible refine Ext.set' ?_ (by first | omega | (simp only [World.size_alloc, World.size_setCell]; omega))) | (with_reducible refine Ext.trans ?_ (by with_reducible assumption))))
    have m3 := hrm.ext (b := w3) (by repeat (first | with_reducible exact Ext.refl _ | with_reducible assumption | with_reducible apply Ext.alloc | with_reducible apply Ext.drew | with_reducible apply Ext.drewN | (with_reducible refine Ext.set' ?_ (by first | omega | (simp only [World.size_alloc, World.size_setCell]; omega))) | (with_reducible refine Ext.trans ?_ (by with_reducible assumption))))
    have x3 := hrox.ext k3
    have K3 : Ext w w3 := (by repeat (first | with_reducible exact Ext.refl _ | with_reducible assumption | with_reducible apply Ext.alloc | with_reducible apply Ext.drew | with_reducible apply Ext.drewN | (with_reducible refine Ext.set' ?_ (by first | omega | (simp only [World.size_alloc, World.size_setCell]; omega))) | (with_reducible refine Ext.trans ?_ (by with_reducible assumption))))
    go_wp2_with fail
    go_loopg [7] l.length (fun g u7 wr => ∃ i : Nat, i + g = l.length ∧ u7 = .int .i64 i ∧ Ext w3 wr)
    case atStart => exact ⟨0, by omega, rfl, (by repeat (first | with_reducible exact Ext.refl _ | with_reducible assumption | with_reducible apply Ext.alloc | with_reducible apply Ext.drew | with_reducible apply Ext.drewN | (with_reducible refine Ext.set' ?_ (by first | omega | (simp only [World.size_alloc, World.size_setCell]; omega))) | (with_reducible refine Ext.trans ?_ (by with_reducible assumption))))⟩
    case round =>
      obtain ⟨i, hik, rfl, K⟩ := hrel
      by_cases hlt : i < l.length
      · have hlx : i < x.length := by have := HXL.out; omega
        obtain ⟨rfl, hc⟩ := r3.cell K hlt
        obtain ⟨rfl, hcx⟩ := x3.cell K hlx
        have hn := hb.at hlt
        have hxx := hxb.at hlx
        have hv1 := hat.out i hlt
        have i0 : (0 : Int) ≤ (i : Int) := by omega
        have i1 : (i : Int) < (l.length : Int) := by omega
        have i2 : (i : Int) < (x.length : Int) := by omega
        have hcr := cntL_range i m (l.getD i 0) hn.1
        rw [HM.out] at hcr
        obtain ⟨N, hN⟩ : ∃ N, Is (cntL i (l.getD i 0) (m.drop 0)) N := ⟨_, Is.refl _⟩
        have hN' : Is (cntL i (l.getD i 0) m) N := hN
        rw [hN'.eq] at hv1 hcr
        clear hN'
        generalize l.getD i 0 = n0 at *
        generalize x.getD i 0 = xi at *
        have HV := hid hv1
        clear hv1
        obtain ⟨wo, hwo⟩ : ∃ wo : World, wo = wr := ⟨_, rfl⟩
        subst hwo
        go_wp2_with fail
        go_loopg [8, 9] k (fun g u8 u9 wr => ∃ (j : Nat) (n : Int), j + g = k ∧ u9 = .int .i64 j ∧ u8 = .int .i64 n ∧ 0 ≤ n ∧ n ≤ 255 + j ∧ Is (cntL i n (m.drop j)) N ∧ wr = wo)
        case atStart => exact ⟨0, n0, by omega, rfl, rfl, hn.1, by omega, hN, rfl⟩
        case round =>
          clear hN
          obtain ⟨j, n, hjk, rfl, rfl, hn0, hn1, hr, rfl⟩ := hrel
          by_cases hjl : j < k
          · have hjm : j < m.length := by have := HM.out; omega
            obtain ⟨rfl, hcm⟩ := m3.cell K hjm
            have hr' := hr
            rw [drop_getD hjm] at hr'
            simp only [cntL] at hr'
            have j0 : (0 : Int) ≤ (j : Int) := by omega
            have j1 : (j : Int) < (k : Int) := by omega
            have hym := HX.out (m.getD j 0) (by rw [getD_at hjm]; exact List.getElem_mem _)
            generalize m.getD j 0 = y at *
            by_cases hyi : y = i
            · rw [if_pos hyi] at hr'
              subst hyi
              have dy : ((i : Int) == (i : Int)) = true := by simp
              go_wp2_with fail
              go_roundg (gk - 1)
              case rel => exact ⟨j + 1, n + 1, by omega, by go_num, rfl, by omega, by omega, hr', rfl⟩
              case measure => omega
            · rw [if_neg hyi] at hr'
              have dy : (y == (i : Int)) = false := by simpa using hyi
              clear hyi
              go_wp2_with fail
              go_roundg (gk - 1)
              case rel => exact ⟨j + 1, n, by omega, by go_num, rfl, by omega, by omega, hr', rfl⟩
              case measure => omega
          · have hr' := hr.eq
            rw [List.drop_of_length_le (by have := HM.out; omega)] at hr'
            simp only [cntL] at hr'
            have hxi : xi = n % 2 := by rw [hr', HV.out]
            have d8 : (xi == n % 2) = true := by simpa using hxi
            have d9 : (xi != n % 2) = false := by simpa using hxi
            clear hxi hr' hr
            go_wp2_with fail
            go_roundg (l.length - i - 1)
            case rel => exact ⟨i + 1, by omega, by go_num, (by repeat (first | with_reducible exact Ext.refl _ | with_reducible assumption | with_reducible apply Ext.alloc | with_reducible apply Ext.drew | with_reducible apply Ext.drewN | (with_reducible refine Ext.set' ?_ (by first | omega | (simp only [World.size_alloc, World.size_setCell]; omega))) | (with_reducible refine Ext.trans ?_ (by with_reducible assumption))))⟩
            case measure => omega
      · go_wp2_with fail
        (with_reducible refine (live_c _).mono ?_); rintro e w4 ⟨rfl, k4⟩
        go_wp2_with fail
        go_ret
        exact ⟨rfl, (by repeat (first | with_reducible exact Ext.refl _ | with_reducible assumption | with_reducible apply Ext.alloc | with_reducible apply Ext.drew | with_reducible apply Ext.drewN | (with_reducible refine Ext.set' ?_ (by first | omega | (simp only [World.size_alloc, World.size_setCell]; omega))) | (with_reducible refine Ext.trans ?_ (by with_reducible assumption))))⟩

theorem turns_entry (v0 v1 : Value) (W : World) {base : Nat} (h0 : Rd Try.prog W 22 v0.cells.toList) (o0 : Value.okWide Try.prog W .any base 22 v0)
    (h1 : Rd Try.prog W 37 v1.cells.toList) (o1 : Value.okWide Try.prog W .any base 37 v1) :
    Calls Try.prog 5 #[v0, v1] W fun e w' => e = .returned (.bool true) ∧ Below W.heap.size W w' := by
  obtain ⟨l, hb, _⟩ := opn_bs h0 o0
  obtain ⟨m, hm, hmx⟩ := opn_ints h1 o1
  exact turns_c v0 v1 l m W hb hm hmx

end Go.Proofs.Ytobllheaadmbgaa
