/- The reference of layer 1: Stuff, Unstuff, Of, Num, Text. -/
import Derived.Test.YtobllheaadmbgaaRefs
set_option linter.unusedSimpArgs false
set_option linter.unusedVariables false
set_option linter.unnecessarySimpa false
namespace Go.Proofs.Ytobllheaadmbgaa
open Go.RowKit Go.Proofs.YtobllheaadmbgaaW.PrintWords
attribute [local go_sem] max2_max min2_min max_of_two min_of_two

def rstuffL : List Int → List Int → List Int
  | out, [] => out
  | out, x :: t => if tailV (out ++ [x % 2]) = 5 then rstuffL (out ++ [x % 2] ++ [1 - x % 2]) t else rstuffL (out ++ [x % 2]) t

set_option maxHeartbeats 2000000 in
theorem rstuff_c (v : Value) (l : List Int) (w : World) (hv : Bs w v l) (hs : l.length ≤ 50000000000000) :
    Calls Try.prog 24 #[v] w fun e w' => ∃ v', e = .returned v' ∧ Own8 w' w.heap.size v' (rstuffL [] l) ∧ Ext w w' := by
  obtain ⟨A, bl, o, c, rfl, hlc, hrow, hb⟩ := hv
  obtain ⟨R, hR⟩ : ∃ R, Is (rstuffL [] l) R := ⟨_, Is.refl _⟩
  rw [hR.eq]
  go_enter Try.func24, Try.ntmps24
  go_wp2_with fail
  have o0 := own8_new w w.heap.size (Nat.le_refl _)
  go_loopg [3, 4] l.length (fun k v3 v4 wr => ∃ (i : Nat) (out : List Int), i + k = l.length ∧ v4 = .int .i64 i ∧ Own8 wr w.heap.size v3 out ∧ Byt out ∧ Is (rstuffL out (l.drop i)) R ∧ out.length ≤ 2 * i ∧ Ext w wr)
  case atStart => exact ⟨0, [], by omega, rfl, o0, Byt.nil, hR, by simp, (by repeat (first | with_reducible exact Ext.refl _ | with_reducible assumption | with_reducible apply Ext.alloc | with_reducible apply Ext.drew | with_reducible apply Ext.drewN | (with_reducible refine Ext.set' ?_ (by first | omega | (simp only [World.size_alloc, World.size_setCell]; omega))) | (with_reducible refine Ext.trans ?_ (by with_reducible assumption)) | (with_reducible refine Ext.only ?_ (by with_reducible assumption) (by omega))))⟩
  case round =>
    clear o0 hR
    obtain ⟨i, out, hik, rfl, ho, hob, hr, hol, K⟩ := hrel
    by_cases hlt : i < l.length
    · have hx := hb.at hlt
      obtain ⟨rfl, hc⟩ := hrow.cell K hlt
      have HC := hid (fun b (k : Ext w b) => (hrow.cell k hlt).2)
      have hr' := hr
      rw [drop_getD hlt] at hr'
      simp only [rstuffL] at hr'
      clear hr
      generalize l.getD i 0 = x at *
      have hob1 : Byt (out ++ [x % 2]) := hob.append (Byt.one (by omega) (by omega))
      go_wp2_with (at_builtin; go_must (refine app8k rfl (.tmp 12) (.tmp 18) rfl w.heap.size rfl rfl (by first | with_reducible rfl | simp only [World.size_alloc, World.size_setCell] | rfl | simp) ho (by first | omega | (simp only [List.length_append, List.length_cons, List.length_nil]; omega)) (Ext.le (by repeat (first | with_reducible exact Ext.refl _ | with_reducible assumption | with_reducible apply Ext.alloc | with_reducible apply Ext.drew | with_reducible apply Ext.drewN | (with_reducible refine Ext.set' ?_ (by first | omega | (simp only [World.size_alloc, World.size_setCell]; omega))) | (with_reducible refine Ext.trans ?_ (by with_reducible assumption)) | (with_reducible refine Ext.only ?_ (by with_reducible assumption) (by omega))))) ?_); intro v1 w1 o1 k1 kk1; have K1 : Ext w w1 := Ext.back (by repeat (first | with_reducible exact Ext.refl _ | with_reducible assumption | with_reducible apply Ext.alloc | with_reducible apply Ext.drew | with_reducible apply Ext.drewN | (with_reducible refine Ext.set' ?_ (by first | omega | (simp only [World.size_alloc, World.size_setCell]; omega))) | (with_reducible refine Ext.trans ?_ (by with_reducible assumption)) | (with_reducible refine Ext.only ?_ (by with_reducible assumption) (by omega)))) k1; clear k1; (skip))
      have hbs := Bs.own o1 hob1
      refine (tail_c _ _ _ hbs).mono ?_
      rintro e w2 ⟨rfl, k2⟩
      have hc2 := HC.out w2 (by repeat (first | with_reducible exact Ext.refl _ | with_reducible assumption | with_reducible apply Ext.alloc | with_reducible apply Ext.drew | with_reducible apply Ext.drewN | (with_reducible refine Ext.set' ?_ (by first | omega | (simp only [World.size_alloc, World.size_setCell]; omega))) | (with_reducible refine Ext.trans ?_ (by with_reducible assumption)) | (with_reducible refine Ext.only ?_ (by with_reducible assumption) (by omega))))
      have o2 := k2.own o1
      clear o1 hbs
      have htr := tailV_range (out ++ [x % 2])
      generalize tailV (out ++ [x % 2]) = m at *
      by_cases h5 : m = 5
      · subst h5
        rw [if_pos rfl] at hr'
        go_wp2_with (at_builtin; go_must (refine app8k rfl (.tmp 23) (.tmp 30) rfl w.heap.size rfl rfl (by first | with_reducible rfl | simp only [World.size_alloc, World.size_setCell] | rfl | simp) o2 (by first | omega | (simp only [List.length_append, List.length_cons, List.length_nil]; omega)) (Ext.le (by repeat (first | with_reducible exact Ext.refl _ | with_reducible assumption | with_reducible apply Ext.alloc | with_reducible apply Ext.drew | with_reducible apply Ext.drewN | (with_reducible refine Ext.set' ?_ (by first | omega | (simp only [World.size_alloc, World.size_setCell]; omega))) | (with_reducible refine Ext.trans ?_ (by with_reducible assumption)) | (with_reducible refine Ext.only ?_ (by with_reducible assumption) (by omega))))) ?_); intro v3 w3 o3 k3 kk3; have K3 : Ext w w3 := Ext.back (by repeat (first | with_reducible exact Ext.refl _ | with_reducible assumption | with_reducible apply Ext.alloc | with_reducible apply Ext.drew | with_reducible apply Ext.drewN | (with_reducible refine Ext.set' ?_ (by first | omega | (simp only [World.size_alloc, World.size_setCell]; omega))) | (with_reducible refine Ext.trans ?_ (by with_reducible assumption)) | (with_reducible refine Ext.only ?_ (by with_reducible assumption) (by omega)))) k3; clear k3; (skip))
        go_roundg (gk - 1)
        case rel => exact ⟨i + 1, _, by omega, by go_num, o3, hob1.append (Byt.one (by omega) (by omega)), hr', by simp; omega, (by repeat (first | with_reducible exact Ext.refl _ | with_reducible assumption | with_reducible apply Ext.alloc | with_reducible apply Ext.drew | with_reducible apply Ext.drewN | (with_reducible refine Ext.set' ?_ (by first | omega | (simp only [World.size_alloc, World.size_setCell]; omega))) | (with_reducible refine Ext.trans ?_ (by with_reducible assumption)) | (with_reducible refine Ext.only ?_ (by with_reducible assumption) (by omega))))⟩
        case measure => omega
      · rw [if_neg h5] at hr'
        have d5 : (m == 5) = false := by simpa using h5
        clear h5
        go_wp2_with fail
        go_roundg (gk - 1)
        case rel => exact ⟨i + 1, _, by omega, by go_num, o2, hob1, hr', by simp; omega, (by repeat (first | with_reducible exact Ext.refl _ | with_reducible assumption | with_reducible apply Ext.alloc | with_reducible apply Ext.drew | with_reducible apply Ext.drewN | (with_reducible refine Ext.set' ?_ (by first | omega | (simp only [World.size_alloc, World.size_setCell]; omega))) | (with_reducible refine Ext.trans ?_ (by with_reducible assumption)) | (with_reducible refine Ext.only ?_ (by with_reducible assumption) (by omega))))⟩
        case measure => omega
    · have hr' := hr.eq
      rw [List.drop_of_length_le (by omega)] at hr'
      simp only [rstuffL] at hr'
      have HR := hid hr'
      clear hr' hr
      go_wp2_with fail
      go_ret
      exact ⟨_, rfl, by rw [← HR.out]; exact ho, (by repeat (first | with_reducible exact Ext.refl _ | with_reducible assumption | with_reducible apply Ext.alloc | with_reducible apply Ext.drew | with_reducible apply Ext.drewN | (with_reducible refine Ext.set' ?_ (by first | omega | (simp only [World.size_alloc, World.size_setCell]; omega))) | (with_reducible refine Ext.trans ?_ (by with_reducible assumption)) | (with_reducible refine Ext.only ?_ (by with_reducible assumption) (by omega))))⟩

/-- The reference's Unstuff, behind the bits 'pre'. -/
def runL : List Int → List Int → List Int → List Int × Int
  | pre, out, [] => if tailV pre = 5 then ([], 5) else (out, 0)
  | pre, out, x :: t => if tailV pre = 5 ∧ x = pre.getD (pre.length - 1) 0 then ([], 9) else if tailV pre < 5 then runL (pre ++ [x]) (out ++ [x]) t else runL (pre ++ [x]) out t

theorem plainV_byt (l : List Int) : Byt (plainV l) := by
  intro x hx
  obtain ⟨y, _, rfl⟩ := List.mem_map.1 hx
  omega

set_option maxHeartbeats 4000000 in
theorem runstuff_c (v : Value) (l : List Int) (w : World) (hv : Bs w v l) (hs : l.length ≤ 50000000000000) :
    Calls Try.prog 22 #[v] w fun e w' => ∃ v', e = .returned (.tuple #[v', .int .i64 (runL [] [] (plainV l)).2]) ∧ Own8 w' w.heap.size v' (runL [] [] (plainV l)).1 ∧ Ext w w' := by
  obtain ⟨R, hR⟩ : ∃ R, Is (runL [] [] (plainV l)) R := ⟨_, Is.refl _⟩
  rw [hR.eq]
  go_enter Try.func22, Try.ntmps22
  go_wp2_with fail
  refine (plain_c _ _ _ hv (by omega)).mono ?_
  rintro e w1 ⟨v1, rfl, o1, K1⟩
  have hp := Bs.own o1 (plainV_byt l)
  have hpl : (plainV l).length ≤ 50000000000000 := by simpa [plainV] using hs
  generalize plainV l = p at *
  obtain ⟨A, bl, o, c, rfl, hlc, hrow, hb⟩ := hp
  have hl0 := hrow.1
  go_wp2_with fail
  have o0 := own8_new w1 w1.heap.size (Nat.le_refl _)
  have R0 := Ext.refl w1
  go_loopg [5, 6] p.length (fun k v5 v6 wr => ∃ (i : Nat) (out : List Int), i + k = p.length ∧ v6 = .int .i64 i ∧ Own8 wr w1.heap.size v5 out ∧ Is (runL (p.take i) out (p.drop i)) R ∧ out.length ≤ i ∧ Ext w1 wr)
  case atStart => exact ⟨0, [], by omega, rfl, o0, hR, by simp, (by repeat (first | with_reducible exact Ext.refl _ | with_reducible assumption | with_reducible apply Ext.alloc | with_reducible apply Ext.drew | with_reducible apply Ext.drewN | (with_reducible refine Ext.set' ?_ (by first | omega | (simp only [World.size_alloc, World.size_setCell]; omega))) | (with_reducible refine Ext.trans ?_ (by with_reducible assumption)) | (with_reducible refine Ext.only ?_ (by with_reducible assumption) (by omega))))⟩
  case round =>
    clear o0 hR R0
    obtain ⟨i, out, hik, rfl, ho, hr, hol, K⟩ := hrel
    by_cases hlt : i < p.length
    · obtain ⟨rfl, hc⟩ := hrow.cell K hlt
      have HC := hid (fun b (k : Ext w1 b) => (hrow.cell k hlt).2)
      have hx := hb.at hlt
      have hr' := hr
      rw [drop_getD hlt] at hr'
      simp only [runL] at hr'
      have ht1 : p.take i ++ [p.getD i 0] = p.take (i + 1) := by rw [List.take_add_one, List.getElem?_eq_getElem hlt, ← getD_at hlt]; rfl
      rw [ht1] at hr'
      clear hr
      have hci : i ≤ c := by omega
      have i0 : (0 : Int) ≤ (i : Int) := by omega
      have i1 : (i : Int) < (p.length : Int) := by omega
      have i2 : (i : Int) ≤ (c : Int) := by omega
      have hbs : Bs wr (.slice (some ⟨bl, o, none⟩) i c) (p.take i) := Bs.of_row (by rw [List.length_take]; omega) hci ((hrow.ext K).take i) (hb.take i)
      have hlen : (p.take i).length = i := by rw [List.length_take]; omega
      have HL := hid hlen
      have htr := tailV_range (p.take i)
      rw [hlen] at htr hr'
      have hprev : 1 ≤ i → (p.take i).getD (i - 1) 0 = p.getD (i - 1) 0 := fun h => by
        rw [List.getD_eq_getElem?_getD, List.getD_eq_getElem?_getD, List.getElem?_take, if_pos (by omega)]
      have HP := hid hprev
      clear hlen ht1 hprev
      go_wp2_with fail
      refine (tail_c _ _ _ hbs).mono ?_
      rintro e w2 ⟨rfl, k2⟩
      clear hbs
      have hc2 := HC.out w2 (by repeat (first | with_reducible exact Ext.refl _ | with_reducible assumption | with_reducible apply Ext.alloc | with_reducible apply Ext.drew | with_reducible apply Ext.drewN | (with_reducible refine Ext.set' ?_ (by first | omega | (simp only [World.size_alloc, World.size_setCell]; omega))) | (with_reducible refine Ext.trans ?_ (by with_reducible assumption)) | (with_reducible refine Ext.only ?_ (by with_reducible assumption) (by omega))))
      have o2 := k2.own ho
      generalize tailV (p.take i) = m at *
      by_cases h5 : m = 5
      · subst h5
        have hi1 : 1 ≤ i := by omega
        rw [HP.out hi1] at hr'
        obtain ⟨j, rfl⟩ : ∃ j, i = j + 1 := ⟨i - 1, by omega⟩
        have hcj : w2.cell? ⟨bl, o + j, none⟩ = some (.int .u8 (p.getD j 0)) := (hrow.cell (b := w2) (by repeat (first | with_reducible exact Ext.refl _ | with_reducible assumption | with_reducible apply Ext.alloc | with_reducible apply Ext.drew | with_reducible apply Ext.drewN | (with_reducible refine Ext.set' ?_ (by first | omega | (simp only [World.size_alloc, World.size_setCell]; omega))) | (with_reducible refine Ext.trans ?_ (by with_reducible assumption)) | (with_reducible refine Ext.only ?_ (by with_reducible assumption) (by omega)))) (by omega)).2
        have hjj : j + 1 - 1 = j := by omega
        rw [hjj] at hr'
        have e1 : IntKind.i64.wrap (((j + 1 : Nat) : Int) - 1) = (j : Int) := by rw [show (((j + 1 : Nat) : Int) - 1) = (j : Int) by omega]; exact IntWalk.i64_in _ (by omega)
        have j0 : (0 : Int) ≤ (j : Int) := by omega
        have j1 : (j : Int) < (p.length : Int) := by omega
        clear HP hjj
        by_cases hxy : p.getD (j + 1) 0 = p.getD j 0
        · rw [if_pos ⟨rfl, hxy⟩] at hr'
          rw [hxy] at hc hc2
          have HR := hid hr'.eq
          clear hr' hxy HC
          generalize p.getD j 0 = x at *
          go_wp2_with fail
          go_quiet (fail)
          go_wp2_with fail
          go_ret2
          exact ⟨_, by rw [← HR.out]; first | done | rfl, by rw [← HR.out]; exact Own8.nil _ _, (by repeat (first | with_reducible exact Ext.refl _ | with_reducible assumption | with_reducible apply Ext.alloc | with_reducible apply Ext.drew | with_reducible apply Ext.drewN | (with_reducible refine Ext.set' ?_ (by first | omega | (simp only [World.size_alloc, World.size_setCell]; omega))) | (with_reducible refine Ext.trans ?_ (by with_reducible assumption)) | (with_reducible refine Ext.only ?_ (by with_reducible assumption) (by omega))))⟩
        · rw [if_neg (fun h => hxy h.2), if_neg (by decide)] at hr'
          have d3 : (p.getD (j + 1) 0 == p.getD j 0) = false := by simpa using hxy
          clear hxy HC
          generalize p.getD (j + 1) 0 = x at *
          generalize p.getD j 0 = y at *
          go_wp2_with fail
          go_quiet (fail)
          clear e1
          go_wp2_with fail
          go_roundg (gk - 1)
          case rel => exact ⟨j + 1 + 1, _, by omega, by go_num, o2, hr', by omega, (by repeat (first | with_reducible exact Ext.refl _ | with_reducible assumption | with_reducible apply Ext.alloc | with_reducible apply Ext.drew | with_reducible apply Ext.drewN | (with_reducible refine Ext.set' ?_ (by first | omega | (simp only [World.size_alloc, World.size_setCell]; omega))) | (with_reducible refine Ext.trans ?_ (by with_reducible assumption)) | (with_reducible refine Ext.only ?_ (by with_reducible assumption) (by omega))))⟩
          case measure => omega
      · rw [if_neg (fun h => h5 h.1)] at hr'
        have d5 : (m == 5) = false := by simpa using h5
        clear h5 HP
        by_cases h6 : m < 5
        · rw [if_pos h6] at hr'
          generalize p.getD i 0 = x at *
          clear HC
          go_wp2_with fail
          go_quiet (fail)
          go_wp2_with (at_builtin; go_must (refine app8k rfl (.tmp 37) (.tmp 42) rfl w1.heap.size rfl rfl (by first | with_reducible rfl | simp only [World.size_alloc, World.size_setCell] | rfl | simp) o2 (by first | omega | (simp only [List.length_append, List.length_cons, List.length_nil]; omega)) (Ext.le (by repeat (first | with_reducible exact Ext.refl _ | with_reducible assumption | with_reducible apply Ext.alloc | with_reducible apply Ext.drew | with_reducible apply Ext.drewN | (with_reducible refine Ext.set' ?_ (by first | omega | (simp only [World.size_alloc, World.size_setCell]; omega))) | (with_reducible refine Ext.trans ?_ (by with_reducible assumption)) | (with_reducible refine Ext.only ?_ (by with_reducible assumption) (by omega))))) ?_); intro v3 w3 o3 k3 kk3; have K3 : Ext w1 w3 := Ext.back (by repeat (first | with_reducible exact Ext.refl _ | with_reducible assumption | with_reducible apply Ext.alloc | with_reducible apply Ext.drew | with_reducible apply Ext.drewN | (with_reducible refine Ext.set' ?_ (by first | omega | (simp only [World.size_alloc, World.size_setCell]; omega))) | (with_reducible refine Ext.trans ?_ (by with_reducible assumption)) | (with_reducible refine Ext.only ?_ (by with_reducible assumption) (by omega)))) k3; clear k3; (skip))
          go_roundg (gk - 1)
          case rel => exact ⟨i + 1, _, by omega, by go_num, o3, hr', by simp; omega, (by repeat (first | with_reducible exact Ext.refl _ | with_reducible assumption | with_reducible apply Ext.alloc | with_reducible apply Ext.drew | with_reducible apply Ext.drewN | (with_reducible refine Ext.set' ?_ (by first | omega | (simp only [World.size_alloc, World.size_setCell]; omega))) | (with_reducible refine Ext.trans ?_ (by with_reducible assumption)) | (with_reducible refine Ext.only ?_ (by with_reducible assumption) (by omega))))⟩
          case measure => omega
        · rw [if_neg h6] at hr'
          clear HC
          go_wp2_with fail
          go_quiet (fail)
          go_wp2_with fail
          go_roundg (gk - 1)
          case rel => exact ⟨i + 1, _, by omega, by go_num, o2, hr', by omega, (by repeat (first | with_reducible exact Ext.refl _ | with_reducible assumption | with_reducible apply Ext.alloc | with_reducible apply Ext.drew | with_reducible apply Ext.drewN | (with_reducible refine Ext.set' ?_ (by first | omega | (simp only [World.size_alloc, World.size_setCell]; omega))) | (with_reducible refine Ext.trans ?_ (by with_reducible assumption)) | (with_reducible refine Ext.only ?_ (by with_reducible assumption) (by omega))))⟩
          case measure => omega
    · have hi : i = p.length := by omega
      have hr' := hr.eq
      rw [hi, List.take_length, List.drop_length] at hr'
      simp only [runL] at hr'
      have hbs : Bs wr (.slice A p.length c) p := Bs.row hlc (hrow.ext K) hb
      clear hi hr
      go_wp2_with fail
      refine (tail_c _ _ _ hbs).mono ?_
      rintro e w2 ⟨rfl, k2⟩
      have o2 := (k2.own ho).lower K1.le
      generalize tailV p = m at *
      by_cases h5 : m = 5
      · rw [if_pos h5] at hr'
        subst h5
        have HR := hid hr'
        clear hr' hbs
        go_wp2_with fail
        go_ret2
        exact ⟨_, by rw [← HR.out]; first | done | rfl, by rw [← HR.out]; exact Own8.nil _ _, (by repeat (first | with_reducible exact Ext.refl _ | with_reducible assumption | with_reducible apply Ext.alloc | with_reducible apply Ext.drew | with_reducible apply Ext.drewN | (with_reducible refine Ext.set' ?_ (by first | omega | (simp only [World.size_alloc, World.size_setCell]; omega))) | (with_reducible refine Ext.trans ?_ (by with_reducible assumption)) | (with_reducible refine Ext.only ?_ (by with_reducible assumption) (by omega))))⟩
      · rw [if_neg h5] at hr'
        have d5 : (m == 5) = false := by simpa using h5
        have HR := hid hr'
        clear hr' hbs h5
        go_wp2_with fail
        go_ret2
        exact ⟨_, by rw [← HR.out]; first | done | rfl, by rw [← HR.out]; exact o2, (by repeat (first | with_reducible exact Ext.refl _ | with_reducible assumption | with_reducible apply Ext.alloc | with_reducible apply Ext.drew | with_reducible apply Ext.drewN | (with_reducible refine Ext.set' ?_ (by first | omega | (simp only [World.size_alloc, World.size_setCell]; omega))) | (with_reducible refine Ext.trans ?_ (by with_reducible assumption)) | (with_reducible refine Ext.only ?_ (by with_reducible assumption) (by omega))))⟩

/-- A power of two. -/
theorem power_c : ∀ (d : Nat) (y : Int) (w : World), y.toNat ≤ d → y ≤ 31 → -1000000000 ≤ y →
    Calls Try.prog 27 #[.int .i64 y] w fun e w' => e = .returned (.int .u32 (2 ^ y.toNat : Nat)) ∧ w' = w
  | 0, y, w, h, h31, hy => by
    have d0 : decide (y < 1) = true := by simp; omega
    have e0 : y.toNat = 0 := by omega
    have HE := hid e0
    clear e0
    go_enter Try.func27, Try.ntmps27
    go_wp2_with fail
    go_ret
    exact ⟨by rw [HE.out]; rfl, rfl⟩
  | d + 1, y, w, h, h31, hy => by
    by_cases h1 : y < 1
    · have d0 : decide (y < 1) = true := by simpa using h1
      have e0 : y.toNat = 0 := by omega
      have HE := hid e0
      clear e0 h1
      go_enter Try.func27, Try.ntmps27
      go_wp2_with fail
      go_ret
      exact ⟨by rw [HE.out]; rfl, rfl⟩
    · have d0 : decide (y < 1) = false := by simpa using h1
      have e0 : y.toNat = (y - 1).toNat + 1 := by omega
      have hm : 2 ^ (y - 1).toNat ≤ 2 ^ 30 := Nat.pow_le_pow_right (by omega) (by omega)
      have ih := power_c d (y - 1) w (by omega) (by omega) (by omega)
      have hp : 2 ^ ((y - 1).toNat + 1) = 2 ^ (y - 1).toNat * 2 := Nat.pow_succ ..
      rw [← e0] at hp
      have HE := hid hp
      have HI := hid ih
      clear e0 hp ih
      generalize 2 ^ (y - 1).toNat = q at *
      generalize 2 ^ y.toNat = r at *
      go_enter Try.func27, Try.ntmps27
      go_wp2_with fail
      refine HI.out.mono ?_
      rintro e w' ⟨rfl, rfl⟩
      go_wp2_with fail
      go_ret
      exact ⟨ret_int (by rw [HE.out]; omega), rfl⟩

end Go.Proofs.Ytobllheaadmbgaa
