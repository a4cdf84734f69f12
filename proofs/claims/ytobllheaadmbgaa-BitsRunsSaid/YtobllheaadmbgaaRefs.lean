/- The reference of layer 1: what its functions compute. -/
import Derived.Test.YtobllheaadmbgaaAuto
set_option linter.unusedSimpArgs false
set_option linter.unusedVariables false
set_option linter.unnecessarySimpa false
namespace Go.Proofs.Ytobllheaadmbgaa
open Go.RowKit Go.Proofs.YtobllheaadmbgaaW.PrintWords
attribute [local go_sem] max2_max min2_min max_of_two min_of_two

def plainV (l : List Int) : List Int := l.map (· % 2)

theorem beq_same (l m : List Int) (i : Nat) (hi : i < l.length) (hm : i < m.length) (h : l.getD i 0 = m.getD i 0) : (l.drop i == m.drop i) = (l.drop (i + 1) == m.drop (i + 1)) := by
  rw [drop_getD hi, drop_getD hm, h]; simp
theorem beq_apart (l m : List Int) (i : Nat) (hi : i < l.length) (hm : i < m.length) (h : l.getD i 0 ≠ m.getD i 0) : (l.drop i == m.drop i) = false := by
  rw [drop_getD hi, drop_getD hm]; simp; intro h'; exact absurd h' h

set_option maxHeartbeats 1000000 in
theorem same_c (v u : Value) (l m : List Int) (w : World) (hv : Bs w v l) (hu : Bs w u m) :
    Calls Try.prog 13 #[v, u] w fun e w' => e = .returned (.bool (l == m)) ∧ Ext w w' := by
  obtain ⟨A, bl, o, c, rfl, hlc, hrow, hb⟩ := hv
  obtain ⟨B, bm, om, d, rfl, hmd, hrom, hbm⟩ := hu
  obtain ⟨R, hR⟩ : ∃ R, R = (l == m) := ⟨_, rfl⟩
  rw [← hR]
  by_cases hne : l.length = m.length
  · have d0 : (l.length == m.length) = true := by simpa using hne
    have d1 : ((l.length : Int) == (m.length : Int)) = true := by simp; omega
    have hR' : Is R (l.drop 0 == m.drop 0) := hR
    have HN := hid hne
    have hlm : m.length ≤ l.length := by omega
    have hml : l.length ≤ m.length := by omega
    have hl0 := hrow.1
    clear hne hR
    go_enter Try.func13, Try.ntmps13
    go_wp2_with fail
    go_loopg [5] l.length (fun k v5 wr => ∃ i : Nat, i + k = l.length ∧ v5 = .int .i64 i ∧ Is R (l.drop i == m.drop i) ∧ Ext w wr)
    case atStart => exact ⟨0, by omega, rfl, hR', (by repeat (first | with_reducible exact Ext.refl _ | with_reducible assumption | with_reducible apply Ext.alloc | with_reducible apply Ext.drew | with_reducible apply Ext.drewN | (with_reducible refine Ext.set' ?_ (by first | omega | (simp only [World.size_alloc, World.size_setCell]; omega))) | (with_reducible refine Ext.trans ?_ (by with_reducible assumption)) | (with_reducible refine Ext.only ?_ (by with_reducible assumption) (by omega))))⟩
    case round =>
      clear hR'
      obtain ⟨i, hik, rfl, hr, K⟩ := hrel
      by_cases hlt : i < l.length
      · have d2 : decide ((i : Int) < (l.length : Int)) = true := by simpa using hlt
        have hltm : i < m.length := by omega
        obtain ⟨rfl, hc⟩ := hrow.cell K hlt
        obtain ⟨rfl, hcm⟩ := hrom.cell K hltm
        have i0 : (0 : Int) ≤ (i : Int) := by omega
        have i1 : (i : Int) < (l.length : Int) := by omega
        have i2 : (i : Int) < (m.length : Int) := by omega
        by_cases hxy : l.getD i 0 = m.getD i 0
        · have hr' := hr
          rw [beq_same l m i hlt hltm hxy] at hr'
          rw [hxy] at hc
          go_wp2_with fail
          go_quiet (fail)
          go_wp2_with fail
          go_roundg (gk - 1)
          case rel => exact ⟨i + 1, by omega, by go_num, hr', (by repeat (first | with_reducible exact Ext.refl _ | with_reducible assumption | with_reducible apply Ext.alloc | with_reducible apply Ext.drew | with_reducible apply Ext.drewN | (with_reducible refine Ext.set' ?_ (by first | omega | (simp only [World.size_alloc, World.size_setCell]; omega))) | (with_reducible refine Ext.trans ?_ (by with_reducible assumption)) | (with_reducible refine Ext.only ?_ (by with_reducible assumption) (by omega))))⟩
          case measure => omega
        · have hr' := hr
          rw [beq_apart l m i hlt hltm hxy] at hr'
          have d3 : (l.getD i 0 == m.getD i 0) = false := by simpa using hxy
          have HR := hid hr'.eq
          clear hxy hr' hr
          generalize l.getD i 0 = x at *
          generalize m.getD i 0 = y at *
          go_wp2_with fail
          go_quiet (fail)
          go_wp2_with fail
          go_ret
          exact ⟨ret_bool HR.out.symm, (by repeat (first | with_reducible exact Ext.refl _ | with_reducible assumption | with_reducible apply Ext.alloc | with_reducible apply Ext.drew | with_reducible apply Ext.drewN | (with_reducible refine Ext.set' ?_ (by first | omega | (simp only [World.size_alloc, World.size_setCell]; omega))) | (with_reducible refine Ext.trans ?_ (by with_reducible assumption)) | (with_reducible refine Ext.only ?_ (by with_reducible assumption) (by omega))))⟩
      · have d2 : decide ((i : Int) < (l.length : Int)) = false := by simp; omega
        have hr' := hr.eq
        rw [List.drop_of_length_le (by omega), List.drop_of_length_le (by omega)] at hr'
        have HR := hid hr'
        clear hr' hr
        go_wp2_with fail
        go_ret
        exact ⟨ret_bool (by rw [HR.out]; rfl), (by repeat (first | with_reducible exact Ext.refl _ | with_reducible assumption | with_reducible apply Ext.alloc | with_reducible apply Ext.drew | with_reducible apply Ext.drewN | (with_reducible refine Ext.set' ?_ (by first | omega | (simp only [World.size_alloc, World.size_setCell]; omega))) | (with_reducible refine Ext.trans ?_ (by with_reducible assumption)) | (with_reducible refine Ext.only ?_ (by with_reducible assumption) (by omega))))⟩
  · have d0 : (l.length == m.length) = false := by simpa using hne
    have d1 : ((l.length : Int) == (m.length : Int)) = false := by simp; omega
    have hr : R = false := by rw [hR]; simp; intro h; exact hne (by rw [h])
    have HR := hid hr
    clear hne hR hr
    go_enter Try.func13, Try.ntmps13
    go_wp2_with fail
    go_ret
    exact ⟨ret_bool HR.out.symm, (by repeat (first | with_reducible exact Ext.refl _ | with_reducible assumption | with_reducible apply Ext.alloc | with_reducible apply Ext.drew | with_reducible apply Ext.drewN | (with_reducible refine Ext.set' ?_ (by first | omega | (simp only [World.size_alloc, World.size_setCell]; omega))) | (with_reducible refine Ext.trans ?_ (by with_reducible assumption)) | (with_reducible refine Ext.only ?_ (by with_reducible assumption) (by omega))))⟩

set_option maxHeartbeats 1000000 in
theorem plain_c (v : Value) (l : List Int) (w : World) (hv : Bs w v l) (hs : l.length ≤ 140737488355000) :
    Calls Try.prog 14 #[v] w fun e w' => ∃ v', e = .returned v' ∧ Own8 w' w.heap.size v' (plainV l) ∧ Ext w w' := by
  obtain ⟨A, bl, o, c, rfl, hlc, hrow, hb⟩ := hv
  go_enter Try.func14, Try.ntmps14
  go_wp2_with fail
  have o0 := own8_new w w.heap.size (Nat.le_refl _)
  go_loopg [3, 4] l.length (fun k v3 v4 wr => ∃ (i : Nat) (out : List Int), i + k = l.length ∧ v4 = .int .i64 i ∧ Own8 wr w.heap.size v3 out ∧ Is out (plainV (l.take i)) ∧ out.length ≤ i ∧ Ext w wr)
  case atStart => exact ⟨0, [], by omega, rfl, o0, rfl, Nat.le_refl _, (by repeat (first | with_reducible exact Ext.refl _ | with_reducible assumption | with_reducible apply Ext.alloc | with_reducible apply Ext.drew | with_reducible apply Ext.drewN | (with_reducible refine Ext.set' ?_ (by first | omega | (simp only [World.size_alloc, World.size_setCell]; omega))) | (with_reducible refine Ext.trans ?_ (by with_reducible assumption)) | (with_reducible refine Ext.only ?_ (by with_reducible assumption) (by omega))))⟩
  case round =>
    clear o0
    obtain ⟨i, out, hik, rfl, ho, hr, hol, K⟩ := hrel
    by_cases hlt : i < l.length
    · have hx := hb.at hlt
      obtain ⟨rfl, hc⟩ := hrow.cell K hlt
      have hr' : Is (out ++ [l.getD i 0 % 2]) (plainV (l.take (i + 1))) := by
        rw [List.take_add_one, List.getElem?_eq_getElem hlt, ← getD_at hlt, hr.eq]; simp [plainV, Is]
      generalize l.getD i 0 = x at *
      go_wp2_with (at_builtin; go_must (refine app8k rfl (.tmp 12) (.tmp 18) rfl w.heap.size rfl rfl (by first | with_reducible rfl | simp only [World.size_alloc, World.size_setCell] | rfl | simp) ho (by first | omega | (simp only [List.length_append, List.length_cons, List.length_nil]; omega)) (Ext.le (by repeat (first | with_reducible exact Ext.refl _ | with_reducible assumption | with_reducible apply Ext.alloc | with_reducible apply Ext.drew | with_reducible apply Ext.drewN | (with_reducible refine Ext.set' ?_ (by first | omega | (simp only [World.size_alloc, World.size_setCell]; omega))) | (with_reducible refine Ext.trans ?_ (by with_reducible assumption)) | (with_reducible refine Ext.only ?_ (by with_reducible assumption) (by omega))))) ?_); intro v1 w1 o1 k1 kk1; have K1 : Ext w w1 := Ext.back (by repeat (first | with_reducible exact Ext.refl _ | with_reducible assumption | with_reducible apply Ext.alloc | with_reducible apply Ext.drew | with_reducible apply Ext.drewN | (with_reducible refine Ext.set' ?_ (by first | omega | (simp only [World.size_alloc, World.size_setCell]; omega))) | (with_reducible refine Ext.trans ?_ (by with_reducible assumption)) | (with_reducible refine Ext.only ?_ (by with_reducible assumption) (by omega)))) k1; clear k1; (skip))
      go_roundg (gk - 1)
      case rel => exact ⟨i + 1, _, by omega, by go_num, o1, hr', by simp; omega, (by repeat (first | with_reducible exact Ext.refl _ | with_reducible assumption | with_reducible apply Ext.alloc | with_reducible apply Ext.drew | with_reducible apply Ext.drewN | (with_reducible refine Ext.set' ?_ (by first | omega | (simp only [World.size_alloc, World.size_setCell]; omega))) | (with_reducible refine Ext.trans ?_ (by with_reducible assumption)) | (with_reducible refine Ext.only ?_ (by with_reducible assumption) (by omega))))⟩
      case measure => omega
    · have hr' := hr.eq
      rw [List.take_of_length_le (by omega)] at hr'
      have HR := hid hr'
      clear hr' hr
      go_wp2_with fail
      go_ret
      exact ⟨_, rfl, by rw [← HR.out]; exact ho, (by repeat (first | with_reducible exact Ext.refl _ | with_reducible assumption | with_reducible apply Ext.alloc | with_reducible apply Ext.drew | with_reducible apply Ext.drewN | (with_reducible refine Ext.set' ?_ (by first | omega | (simp only [World.size_alloc, World.size_setCell]; omega))) | (with_reducible refine Ext.trans ?_ (by with_reducible assumption)) | (with_reducible refine Ext.only ?_ (by with_reducible assumption) (by omega))))⟩

/-- How often c stands at the head. -/
def headC (c : Int) : List Int → Int
  | [] => 0
  | x :: t => if x = c then headC c t + 1 else 0
/-- How many equal ones a row ends with. -/
def tailV (l : List Int) : Int := headC (l.getD (l.length - 1) 0) l.reverse
theorem headC_range (c : Int) : ∀ l : List Int, 0 ≤ headC c l ∧ headC c l ≤ l.length
  | [] => by simp [headC]
  | x :: t => by have := headC_range c t; simp only [headC, List.length_cons]; split <;> omega
theorem tailV_range (l : List Int) : 0 ≤ tailV l ∧ tailV l ≤ l.length := by have := headC_range (l.getD (l.length - 1) 0) l.reverse; rwa [List.length_reverse] at this

set_option maxHeartbeats 1000000 in
theorem tail_c (v : Value) (l : List Int) (w : World) (hv : Bs w v l) :
    Calls Try.prog 30 #[v] w fun e w' => e = .returned (.int .i64 (tailV l)) ∧ Ext w w' := by
  obtain ⟨A, bl, o, c, rfl, hlc, hrow, hb⟩ := hv
  obtain ⟨R, hR⟩ : ∃ R, Is (0 + headC (l.getD (l.length - 1) 0) (l.take l.length).reverse) R := ⟨_, Is.refl _⟩
  have hR' : Is (tailV l) R := by have := hR; rw [List.take_length, Int.zero_add] at this; exact this
  rw [hR'.eq]
  have hl0 := hrow.1
  clear hR'
  go_enter Try.func30, Try.ntmps30
  go_wp2_with fail
  go_loopg [3, 4] l.length (fun k v3 v4 wr => ∃ (n y : Int), k ≤ l.length ∧ v3 = .int .i64 n ∧ v4 = .int .i64 y ∧ y ≤ k - 1 ∧ (k : Int) - 1 ≤ y ∧ Is (n + headC (l.getD (l.length - 1) 0) (l.take k).reverse) R ∧ 0 ≤ n ∧ n + k ≤ l.length ∧ Ext w wr)
  case atStart => exact ⟨0, _, Nat.le_refl _, rfl, rfl, by omega, by omega, hR, by omega, by omega, (by repeat (first | with_reducible exact Ext.refl _ | with_reducible assumption | with_reducible apply Ext.alloc | with_reducible apply Ext.drew | with_reducible apply Ext.drewN | (with_reducible refine Ext.set' ?_ (by first | omega | (simp only [World.size_alloc, World.size_setCell]; omega))) | (with_reducible refine Ext.trans ?_ (by with_reducible assumption)) | (with_reducible refine Ext.only ?_ (by with_reducible assumption) (by omega))))⟩
  case round =>
    clear hR
    obtain ⟨n, y, hkl, rfl, rfl, hy0, hy1, hr, hn0, hn1, K⟩ := hrel
    by_cases hk : gk = 0
    · have d0 : decide (0 ≤ y) = false := by simp; omega
      have hr' : Is n R := by have := hr.eq; rw [hk] at this; unfold Is; simpa [headC] using this
      have HR := hid hr'.eq
      clear hr hr' hk
      go_wp2_with fail
      go_quiet (fail)
      go_wp2_with fail
      go_ret
      exact ⟨ret_int HR.out, (by repeat (first | with_reducible exact Ext.refl _ | with_reducible assumption | with_reducible apply Ext.alloc | with_reducible apply Ext.drew | with_reducible apply Ext.drewN | (with_reducible refine Ext.set' ?_ (by first | omega | (simp only [World.size_alloc, World.size_setCell]; omega))) | (with_reducible refine Ext.trans ?_ (by with_reducible assumption)) | (with_reducible refine Ext.only ?_ (by with_reducible assumption) (by omega))))⟩
    · have d0 : decide (0 ≤ y) = true := by simp; omega
      obtain ⟨i, rfl⟩ : ∃ i, gk = i + 1 := ⟨gk - 1, by omega⟩
      obtain rfl : y = (i : Int) := by omega
      have hlt : i < l.length := by omega
      have hlast : l.length - 1 < l.length := by omega
      obtain ⟨rfl, hc⟩ := hrow.cell K hlt
      obtain ⟨_, hd⟩ := hrow.cell K hlast
      have hr' := hr
      rw [List.take_add_one, List.getElem?_eq_getElem hlt, ← getD_at hlt, Option.toList_some, List.reverse_append, List.reverse_singleton, List.singleton_append] at hr'
      simp only [headC] at hr'
      obtain ⟨L, hL⟩ : ∃ L, l.length - 1 = L := ⟨_, rfl⟩
      rw [hL] at hd hr' hr
      have e1 : ((l.length : Int) - 1) = (L : Int) := by omega
      have e2 : IntKind.i64.wrap ((l.length : Int) - 1) = (L : Int) := by rw [← e1]; exact IntWalk.i64_in _ (by omega)
      have i0 : (0 : Int) ≤ (i : Int) := by omega
      have i1 : (i : Int) < (l.length : Int) := by omega
      have i2 : (0 : Int) ≤ (L : Int) := by omega
      have i3 : (L : Int) < (l.length : Int) := by omega
      by_cases hxy : l.getD i 0 = l.getD L 0
      · rw [if_pos hxy] at hr'
        rw [hxy] at hc
        clear e1 hxy hr
        have hq : Is (n + 1 + headC (l.getD (l.length - 1) 0) (l.take i).reverse) R := by rw [hL]; unfold Is at hr' ⊢; omega
        clear hL
        generalize l.getD L 0 = x at *
        go_wp2_with fail
        go_quiet (fail)
        clear e2
        go_wp2_with fail
        go_roundg i
        case rel => exact ⟨n + 1, _, by omega, rfl, rfl, by omega, by omega, hq, by omega, by omega, (by repeat (first | with_reducible exact Ext.refl _ | with_reducible assumption | with_reducible apply Ext.alloc | with_reducible apply Ext.drew | with_reducible apply Ext.drewN | (with_reducible refine Ext.set' ?_ (by first | omega | (simp only [World.size_alloc, World.size_setCell]; omega))) | (with_reducible refine Ext.trans ?_ (by with_reducible assumption)) | (with_reducible refine Ext.only ?_ (by with_reducible assumption) (by omega))))⟩
        case measure => omega
      · rw [if_neg hxy] at hr'
        have d3 : (l.getD i 0 == l.getD L 0) = false := by simpa using hxy
        have HR := hid hr'.eq
        generalize l.getD i 0 = x at *
        generalize l.getD L 0 = z at *
        clear hL e1 hxy hr hr'
        go_wp2_with fail
        go_quiet (fail)
        clear e2
        go_wp2_with fail
        go_ret
        exact ⟨ret_int (by have := HR.out; omega), (by repeat (first | with_reducible exact Ext.refl _ | with_reducible assumption | with_reducible apply Ext.alloc | with_reducible apply Ext.drew | with_reducible apply Ext.drewN | (with_reducible refine Ext.set' ?_ (by first | omega | (simp only [World.size_alloc, World.size_setCell]; omega))) | (with_reducible refine Ext.trans ?_ (by with_reducible assumption)) | (with_reducible refine Ext.only ?_ (by with_reducible assumption) (by omega))))⟩

end Go.Proofs.Ytobllheaadmbgaa
