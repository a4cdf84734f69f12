/- 'bits.Parse', the reference's Of, Num and Text. -/
import Derived.Test.YtobllheaadmbgaaNums
import Derived.Test.YtobllheaadmbgaaText
set_option linter.unusedSimpArgs false
set_option linter.unusedVariables false
set_option linter.unnecessarySimpa false
namespace Go.Proofs.Ytobllheaadmbgaa
open Go.RowKit Go.Proofs.YtobllheaadmbgaaW.PrintWords
attribute [local go_sem] max2_max min2_min max_of_two min_of_two

/-- A text's bytes. -/
def sb (s : ByteArray) : List Int := s.data.toList.map fun c => (c.toNat : Int)
def parseL : List Int → List Int → List Int × Int
  | out, [] => (out, 0)
  | out, x :: t => if x = 48 ∨ x = 49 then parseL (out ++ [x - 48]) t else ([], 4)

theorem sb_len (s : ByteArray) : (sb s).length = s.size := by simp [sb]
theorem sb_drop (s : ByteArray) (i : Nat) (h : i < s.size) : (sb s).drop i = (s[i].toNat : Int) :: (sb s).drop (i + 1) := by
  rw [List.drop_eq_getElem_cons (by rw [sb_len]; exact h)]
  congr 1
  simp [sb]
  rfl

set_option maxHeartbeats 2000000 in
theorem parse_c (s : ByteArray) (w : World) (hs : s.size ≤ 140737488355000) :
    Calls Try.prog 10 #[.string s] w fun e w' => ∃ v', e = .returned (.tuple #[v', .int .i64 (parseL [] (sb s)).2]) ∧ Own8 w' w.heap.size v' (parseL [] (sb s)).1 ∧ Ext w w' := by
  obtain ⟨R, hR⟩ : ∃ R, Is (parseL [] (sb s)) R := ⟨_, Is.refl _⟩
  rw [hR.eq]
  go_enter Try.func10, Try.ntmps10
  go_wp2_with fail
  go_loopg [4, 8] s.size (fun k v4 v8 wr => ∃ (i : Nat) (out : List Int), i + k = s.size ∧ v8 = .int .i64 i ∧ Own8 wr w.heap.size v4 out ∧ out.length ≤ i ∧ Is (parseL out ((sb s).drop i)) R ∧ Ext w wr)
  case atStart => exact ⟨0, [], by omega, rfl, Own8.nil _ _, by simp, hR, (by repeat (first | with_reducible exact Ext.refl _ | with_reducible assumption | with_reducible apply Ext.alloc | with_reducible apply Ext.drew | with_reducible apply Ext.drewN | (with_reducible refine Ext.set' ?_ (by first | omega | (simp only [World.size_alloc, World.size_setCell]; omega))) | (with_reducible refine Ext.trans ?_ (by with_reducible assumption)) | (with_reducible refine Ext.only ?_ (by with_reducible assumption) (by omega))))⟩
  case round =>
    clear hR
    obtain ⟨i, out, hik, rfl, ho, hol, hr, K⟩ := hrel
    by_cases hlt : i < s.size
    · have hr' := hr
      rw [sb_drop s i hlt] at hr'
      simp only [parseL] at hr'
      have i0 : (0 : Int) ≤ (i : Int) := by omega
      have i1 : (i : Int) < (s.size : Int) := by omega
      have hcase : (s[i].toNat : Int) = 48 ∨ (s[i].toNat : Int) = 49 ∨ (((s[i].toNat : Int) != 48) = true ∧ ((s[i].toNat : Int) != 49) = true ∧ ((s[i].toNat : Int) == 48) = false ∧ ((s[i].toNat : Int) == 49) = false ∧ Is (([], 4) : List Int × Int) R) := by
        by_cases h1 : (s[i].toNat : Int) = 48
        · exact .inl h1
        · by_cases h2 : (s[i].toNat : Int) = 49
          · exact .inr (.inl h2)
          · rw [if_neg (by omega)] at hr'
            exact .inr (.inr ⟨by rw [bne_iff_ne]; exact h1, by rw [bne_iff_ne]; exact h2, beq_eq_false_iff_ne.2 h1, beq_eq_false_iff_ne.2 h2, hr'⟩)
      rcases hcase with e | e | ⟨d1, d2, d3, d4, HR⟩
      · rw [e, if_pos (.inl rfl)] at hr'
        go_wp2_with (at_builtin; go_must (refine app8k rfl (.tmp 21) (.tmp 26) rfl w.heap.size rfl rfl (by first | with_reducible rfl | simp only [World.size_alloc, World.size_setCell] | rfl | simp) ho (by first | omega | (simp only [List.length_append, List.length_cons, List.length_nil]; omega)) (Ext.le (by repeat (first | with_reducible exact Ext.refl _ | with_reducible assumption | with_reducible apply Ext.alloc | with_reducible apply Ext.drew | with_reducible apply Ext.drewN | (with_reducible refine Ext.set' ?_ (by first | omega | (simp only [World.size_alloc, World.size_setCell]; omega))) | (with_reducible refine Ext.trans ?_ (by with_reducible assumption)) | (with_reducible refine Ext.only ?_ (by with_reducible assumption) (by omega))))) ?_); intro v1 w1 o1 k1 kk1; have K1 : Ext w w1 := Ext.back (by repeat (first | with_reducible exact Ext.refl _ | with_reducible assumption | with_reducible apply Ext.alloc | with_reducible apply Ext.drew | with_reducible apply Ext.drewN | (with_reducible refine Ext.set' ?_ (by first | omega | (simp only [World.size_alloc, World.size_setCell]; omega))) | (with_reducible refine Ext.trans ?_ (by with_reducible assumption)) | (with_reducible refine Ext.only ?_ (by with_reducible assumption) (by omega)))) k1; clear k1; (skip))
        go_roundg (gk - 1)
        case rel => exact ⟨i + 1, _, by omega, by go_num, o1, by simp; omega, hr', (by repeat (first | with_reducible exact Ext.refl _ | with_reducible assumption | with_reducible apply Ext.alloc | with_reducible apply Ext.drew | with_reducible apply Ext.drewN | (with_reducible refine Ext.set' ?_ (by first | omega | (simp only [World.size_alloc, World.size_setCell]; omega))) | (with_reducible refine Ext.trans ?_ (by with_reducible assumption)) | (with_reducible refine Ext.only ?_ (by with_reducible assumption) (by omega))))⟩
        case measure => omega
      · rw [e, if_pos (.inr rfl)] at hr'
        go_wp2_with (at_builtin; go_must (refine app8k rfl (.tmp 21) (.tmp 26) rfl w.heap.size rfl rfl (by first | with_reducible rfl | simp only [World.size_alloc, World.size_setCell] | rfl | simp) ho (by first | omega | (simp only [List.length_append, List.length_cons, List.length_nil]; omega)) (Ext.le (by repeat (first | with_reducible exact Ext.refl _ | with_reducible assumption | with_reducible apply Ext.alloc | with_reducible apply Ext.drew | with_reducible apply Ext.drewN | (with_reducible refine Ext.set' ?_ (by first | omega | (simp only [World.size_alloc, World.size_setCell]; omega))) | (with_reducible refine Ext.trans ?_ (by with_reducible assumption)) | (with_reducible refine Ext.only ?_ (by with_reducible assumption) (by omega))))) ?_); intro v1 w1 o1 k1 kk1; have K1 : Ext w w1 := Ext.back (by repeat (first | with_reducible exact Ext.refl _ | with_reducible assumption | with_reducible apply Ext.alloc | with_reducible apply Ext.drew | with_reducible apply Ext.drewN | (with_reducible refine Ext.set' ?_ (by first | omega | (simp only [World.size_alloc, World.size_setCell]; omega))) | (with_reducible refine Ext.trans ?_ (by with_reducible assumption)) | (with_reducible refine Ext.only ?_ (by with_reducible assumption) (by omega)))) k1; clear k1; (skip))
        go_roundg (gk - 1)
        case rel => exact ⟨i + 1, _, by omega, by go_num, o1, by simp; omega, hr', (by repeat (first | with_reducible exact Ext.refl _ | with_reducible assumption | with_reducible apply Ext.alloc | with_reducible apply Ext.drew | with_reducible apply Ext.drewN | (with_reducible refine Ext.set' ?_ (by first | omega | (simp only [World.size_alloc, World.size_setCell]; omega))) | (with_reducible refine Ext.trans ?_ (by with_reducible assumption)) | (with_reducible refine Ext.only ?_ (by with_reducible assumption) (by omega))))⟩
        case measure => omega
      · clear hr' hr
        go_wp2_with fail
        go_ret2
        exact ⟨_, by rw [← HR.eq]; first | done | rfl, by rw [← HR.eq]; exact Own8.nil _ _, (by repeat (first | with_reducible exact Ext.refl _ | with_reducible assumption | with_reducible apply Ext.alloc | with_reducible apply Ext.drew | with_reducible apply Ext.drewN | (with_reducible refine Ext.set' ?_ (by first | omega | (simp only [World.size_alloc, World.size_setCell]; omega))) | (with_reducible refine Ext.trans ?_ (by with_reducible assumption)) | (with_reducible refine Ext.only ?_ (by with_reducible assumption) (by omega))))⟩
    · have hr' := hr.eq
      rw [List.drop_of_length_le (by rw [sb_len]; omega)] at hr'
      simp only [parseL] at hr'
      have HR := hid hr'
      clear hr' hr
      go_wp2_with fail
      go_ret2
      exact ⟨_, by rw [← HR.out]; first | done | rfl, by rw [← HR.out]; exact ho, (by repeat (first | with_reducible exact Ext.refl _ | with_reducible assumption | with_reducible apply Ext.alloc | with_reducible apply Ext.drew | with_reducible apply Ext.drewN | (with_reducible refine Ext.set' ?_ (by first | omega | (simp only [World.size_alloc, World.size_setCell]; omega))) | (with_reducible refine Ext.trans ?_ (by with_reducible assumption)) | (with_reducible refine Ext.only ?_ (by with_reducible assumption) (by omega))))⟩

/-- A number's bits, as the reference tells them. -/
def rofL (n y : Int) : Nat → List Int → List Int
  | 0, out => out
  | j + 1, out => if (j : Int) < y then rofL n y j (out ++ [n / (2 ^ j : Nat) % 2]) else rofL n y j out

set_option maxHeartbeats 2000000 in
theorem rof_c (n y : Int) (w : World) (h0 : 0 ≤ n) (h1 : n ≤ 4294967295) :
    Calls Try.prog 17 #[.int .u32 n, .int .i64 y] w fun e w' => ∃ v', e = .returned v' ∧ Own8 w' w.heap.size v' (rofL n y 32 []) ∧ Ext w w' := by
  obtain ⟨R, hR⟩ : ∃ R, Is (rofL n y 32 []) R := ⟨_, Is.refl _⟩
  rw [hR.eq]
  go_enter Try.func17, Try.ntmps17
  go_wp2_with fail
  have o0 := own8_new w w.heap.size (Nat.le_refl _)
  go_loopg [5, 6] 32 (fun k v5 v6 wr => ∃ (z : Int) (out : List Int), k ≤ 32 ∧ v6 = .int .i64 z ∧ z ≤ k - 1 ∧ (k : Int) - 1 ≤ z ∧ Own8 wr w.heap.size v5 out ∧ out.length ≤ 32 - k ∧ Is (rofL n y k out) R ∧ Ext w wr)
  case atStart => exact ⟨31, [], by omega, rfl, by omega, by omega, o0, by simp, hR, (by repeat (first | with_reducible exact Ext.refl _ | with_reducible assumption | with_reducible apply Ext.alloc | with_reducible apply Ext.drew | with_reducible apply Ext.drewN | (with_reducible refine Ext.set' ?_ (by first | omega | (simp only [World.size_alloc, World.size_setCell]; omega))) | (with_reducible refine Ext.trans ?_ (by with_reducible assumption)) | (with_reducible refine Ext.only ?_ (by with_reducible assumption) (by omega))))⟩
  case round =>
    clear o0 hR
    obtain ⟨z, out, hk, rfl, hz0, hz1, ho, hol, hr, K⟩ := hrel
    by_cases hk0 : gk = 0
    · subst hk0
      have hzz : z < 0 := by omega
      have hr' := hr.eq
      simp only [rofL] at hr'
      have HR := hid hr'
      clear hr hr'
      go_wp2_with fail
      go_ret
      exact ⟨_, rfl, by rw [← HR.out]; exact ho, (by repeat (first | with_reducible exact Ext.refl _ | with_reducible assumption | with_reducible apply Ext.alloc | with_reducible apply Ext.drew | with_reducible apply Ext.drewN | (with_reducible refine Ext.set' ?_ (by first | omega | (simp only [World.size_alloc, World.size_setCell]; omega))) | (with_reducible refine Ext.trans ?_ (by with_reducible assumption)) | (with_reducible refine Ext.only ?_ (by with_reducible assumption) (by omega))))⟩
    · obtain ⟨i, rfl⟩ : ∃ i, gk = i + 1 := ⟨gk - 1, by omega⟩
      obtain rfl : z = (i : Int) := by omega
      have i0 : (0 : Int) ≤ (i : Int) := by omega
      have hr' := hr
      simp only [rofL] at hr'
      by_cases hiy : (i : Int) < y
      · rw [if_pos hiy] at hr'
        have hp : 2 ^ i ≤ 2 ^ 31 := Nat.pow_le_pow_right (by omega) (by omega)
        have hp0 : 0 < 2 ^ i := Nat.pow_pos (by omega)
        have PW := hid (power_c i (i : Int) wr (by omega) (by omega) (by omega))
        rw [Int.toNat_natCast] at PW
        have hq0 : 0 ≤ n / ((2 ^ i : Nat) : Int) := Int.ediv_nonneg h0 (by omega)
        have hq1 : n / ((2 ^ i : Nat) : Int) ≤ 4294967295 := by
          have := Int.ediv_le_self ((2 ^ i : Nat) : Int) h0; omega
        generalize 2 ^ i = q at *
        go_wp2_with fail
        refine PW.out.mono ?_
        rintro e w2 ⟨rfl, rfl⟩
        have e1 : n.tdiv (q : Int) = n / (q : Int) := Int.tdiv_eq_ediv_of_nonneg h0
        go_wp2_with (at_builtin; go_must (refine app8k rfl (.tmp 15) (.tmp 22) rfl w.heap.size rfl rfl (by first | with_reducible rfl | simp only [World.size_alloc, World.size_setCell] | rfl | simp) ho (by first | omega | (simp only [List.length_append, List.length_cons, List.length_nil]; omega)) (Ext.le (by repeat (first | with_reducible exact Ext.refl _ | with_reducible assumption | with_reducible apply Ext.alloc | with_reducible apply Ext.drew | with_reducible apply Ext.drewN | (with_reducible refine Ext.set' ?_ (by first | omega | (simp only [World.size_alloc, World.size_setCell]; omega))) | (with_reducible refine Ext.trans ?_ (by with_reducible assumption)) | (with_reducible refine Ext.only ?_ (by with_reducible assumption) (by omega))))) ?_); intro v1 w1 o1 k1 kk1; have K1 : Ext w w1 := Ext.back (by repeat (first | with_reducible exact Ext.refl _ | with_reducible assumption | with_reducible apply Ext.alloc | with_reducible apply Ext.drew | with_reducible apply Ext.drewN | (with_reducible refine Ext.set' ?_ (by first | omega | (simp only [World.size_alloc, World.size_setCell]; omega))) | (with_reducible refine Ext.trans ?_ (by with_reducible assumption)) | (with_reducible refine Ext.only ?_ (by with_reducible assumption) (by omega)))) k1; clear k1; (skip))
        go_roundg i
        case rel => exact ⟨(i : Int) - 1, _, by omega, rfl, by omega, by omega, o1, by simp; omega, hr', (by repeat (first | with_reducible exact Ext.refl _ | with_reducible assumption | with_reducible apply Ext.alloc | with_reducible apply Ext.drew | with_reducible apply Ext.drewN | (with_reducible refine Ext.set' ?_ (by first | omega | (simp only [World.size_alloc, World.size_setCell]; omega))) | (with_reducible refine Ext.trans ?_ (by with_reducible assumption)) | (with_reducible refine Ext.only ?_ (by with_reducible assumption) (by omega))))⟩
        case measure => omega
      · rw [if_neg hiy] at hr'
        go_wp2_with fail
        go_roundg i
        case rel => exact ⟨(i : Int) - 1, _, by omega, rfl, by omega, by omega, ho, by omega, hr', (by repeat (first | with_reducible exact Ext.refl _ | with_reducible assumption | with_reducible apply Ext.alloc | with_reducible apply Ext.drew | with_reducible apply Ext.drewN | (with_reducible refine Ext.set' ?_ (by first | omega | (simp only [World.size_alloc, World.size_setCell]; omega))) | (with_reducible refine Ext.trans ?_ (by with_reducible assumption)) | (with_reducible refine Ext.only ?_ (by with_reducible assumption) (by omega))))⟩
        case measure => omega

def rnumL : Int → List Int → Int
  | n, [] => n
  | n, x :: t => rnumL (n + x % 2 * (2 ^ t.length : Nat)) t

set_option maxHeartbeats 4000000 in
theorem rnum_c (v : Value) (l : List Int) (w : World) (hv : Bs w v l) (h32 : l.length ≤ 32) :
    Calls Try.prog 18 #[v] w fun e w' => e = .returned (.int .u32 (rnumL 0 l)) ∧ Ext w w' := by
  obtain ⟨A, bl, o, c, rfl, hlc, hrow, hb⟩ := hv
  obtain ⟨R, hR⟩ : ∃ R, Is (rnumL 0 l) R := ⟨_, Is.refl _⟩
  rw [hR.eq]
  have hl0 := hrow.1
  have hst : 2 ^ l.length ≤ 2 ^ 32 := Nat.pow_le_pow_right (by omega) h32
  go_enter Try.func18, Try.ntmps18
  go_wp2_with fail
  go_loopg [3, 4] l.length (fun k v3 v4 wr => ∃ (i : Nat) (n : Int), i + k = l.length ∧ v4 = .int .i64 i ∧ v3 = .int .u32 n ∧ 0 ≤ n ∧ n + (2 ^ k : Nat) ≤ 4294967296 ∧ Is (rnumL n (l.drop i)) R ∧ Ext w wr)
  case atStart => exact ⟨0, 0, by omega, rfl, rfl, by omega, by omega, hR, (by repeat (first | with_reducible exact Ext.refl _ | with_reducible assumption | with_reducible apply Ext.alloc | with_reducible apply Ext.drew | with_reducible apply Ext.drewN | (with_reducible refine Ext.set' ?_ (by first | omega | (simp only [World.size_alloc, World.size_setCell]; omega))) | (with_reducible refine Ext.trans ?_ (by with_reducible assumption)) | (with_reducible refine Ext.only ?_ (by with_reducible assumption) (by omega))))⟩
  case round =>
    clear hR
    obtain ⟨i, n, hik, rfl, rfl, hn0, hn1, hr, K⟩ := hrel
    by_cases hlt : i < l.length
    · have hx := hb.at hlt
      obtain ⟨rfl, hc⟩ := hrow.cell K hlt
      obtain ⟨j, rfl⟩ : ∃ j, gk = j + 1 := ⟨gk - 1, by omega⟩
      have hr' := hr
      rw [drop_getD hlt] at hr'
      simp only [rnumL, List.length_drop] at hr'
      rw [show l.length - (i + 1) = j by omega] at hr'
      generalize l.getD i 0 = x at *
      have hp0 : 0 < 2 ^ j := Nat.pow_pos (by omega)
      have hp1 : 2 ^ (j + 1) = 2 ^ j * 2 := Nat.pow_succ ..
      rw [hp1] at hn1
      have PW := hid (fun wq => power_c j (j : Int) wq (by omega) (by omega) (by omega))
      rw [Int.toNat_natCast] at PW
      have i0 : (0 : Int) ≤ (i : Int) := by omega
      have i1 : (i : Int) < (l.length : Int) := by omega
      have e1 : IntKind.i64.wrap ((l.length : Int) - 1) = (l.length : Int) - 1 := IntWalk.i64_in _ (by omega)
      have e2 : IntKind.i64.wrap ((l.length : Int) - 1 - (i : Int)) = (j : Int) := by rw [show (l.length : Int) - 1 - (i : Int) = (j : Int) by omega]; exact IntWalk.i64_in _ (by omega)
      clear hp1
      obtain ⟨q, hq⟩ : ∃ q, 2 ^ j = q := ⟨_, rfl⟩
      rw [hq] at hr' hn1 hp0 PW
      have HQ := hid hq
      clear hq
      go_wp2_with fail
      have hval : 0 ≤ x % 2 * (q : Int) ∧ x % 2 * (q : Int) ≤ q ∧ (n + x % 2 * (q : Int) % 4294967296) % 4294967296 = n + x % 2 * q := by
        rcases (by omega : x % 2 = 0 ∨ x % 2 = 1) with h | h <;> rw [h] <;> omega
      have HV := hid hval
      clear hval
      go_wp2_with fail
      go_quiet ((go_at_call 27; exact Calls.quiet_of_same (PW.out _)))
      clear e1 e2
      go_wp2_with fail
      go_roundg j
      case rel => exact ⟨i + 1, n + x % 2 * q, by omega, by go_num, by rw [HV.out.2.2], by have := HV.out.1; omega, by have := HV.out.2.1; rw [HQ.out]; omega, hr', (by repeat (first | with_reducible exact Ext.refl _ | with_reducible assumption | with_reducible apply Ext.alloc | with_reducible apply Ext.drew | with_reducible apply Ext.drewN | (with_reducible refine Ext.set' ?_ (by first | omega | (simp only [World.size_alloc, World.size_setCell]; omega))) | (with_reducible refine Ext.trans ?_ (by with_reducible assumption)) | (with_reducible refine Ext.only ?_ (by with_reducible assumption) (by omega))))⟩
      case measure => omega
    · have hr' := hr.eq
      rw [List.drop_of_length_le (by omega)] at hr'
      simp only [rnumL] at hr'
      have HR := hid hr'
      clear hr' hr
      go_wp2_with fail
      go_ret
      exact ⟨by rw [← HR.out]; first | done | rfl, (by repeat (first | with_reducible exact Ext.refl _ | with_reducible assumption | with_reducible apply Ext.alloc | with_reducible apply Ext.drew | with_reducible apply Ext.drewN | (with_reducible refine Ext.set' ?_ (by first | omega | (simp only [World.size_alloc, World.size_setCell]; omega))) | (with_reducible refine Ext.trans ?_ (by with_reducible assumption)) | (with_reducible refine Ext.only ?_ (by with_reducible assumption) (by omega))))⟩

theorem text_c (v : Value) (l : List Int) (w : World) (hv : Bs w v l) (hs : l.length ≤ 140737488351232) :
    Calls Try.prog 11 #[v] w fun e w' => e = .returned (.string ⟨(textV l).toArray⟩) ∧ Ext w w' := by
  obtain ⟨A, bl, o, c, rfl, hlc, hrow, hb⟩ := hv
  exact text_any A bl o c l.length l w (hid hrow) (hid rfl) hlc hs (hid hb)

set_option maxHeartbeats 4000000 in
theorem rtext_c (v : Value) (l : List Int) (w : World) (hv : Bs w v l) (hs : l.length ≤ 140737488355000) :
    Calls Try.prog 12 #[v] w fun e w' => e = .returned (.string ⟨(textV l).toArray⟩) ∧ Ext w w' := by
  obtain ⟨A, bl, o, c, rfl, hlc, hrow, hb⟩ := hv
  have hl0 := hrow.1
  go_enter Try.func12, Try.ntmps12
  go_wp2_with fail
  go_loopg [3, 4] l.length (fun k v3 v4 wr => ∃ (i : Nat) (s : ByteArray), i + k = l.length ∧ v4 = .int .i64 i ∧ v3 = .string s ∧ Is s.data.toList (textV (l.take i)) ∧ s.size = i ∧ Ext w wr)
  case atStart => exact ⟨0, _, by omega, rfl, rfl, rfl, rfl, (by repeat (first | with_reducible exact Ext.refl _ | with_reducible assumption | with_reducible apply Ext.alloc | with_reducible apply Ext.drew | with_reducible apply Ext.drewN | (with_reducible refine Ext.set' ?_ (by first | omega | (simp only [World.size_alloc, World.size_setCell]; omega))) | (with_reducible refine Ext.trans ?_ (by with_reducible assumption)) | (with_reducible refine Ext.only ?_ (by with_reducible assumption) (by omega))))⟩
  case round =>
    obtain ⟨i, s, hik, rfl, rfl, hr, hsz, K⟩ := hrel
    by_cases hlt : i < l.length
    · have hx := hb.at hlt
      obtain ⟨rfl, hc⟩ := hrow.cell K hlt
      have hn : textV (l.take (i + 1)) = textV (l.take i) ++ [sgn (l.getD i 0)] := by
        rw [List.take_add_one, List.getElem?_eq_getElem hlt, ← getD_at hlt]; simp [textV]
      rw [← hr.eq] at hn
      have HN := hid hn
      have HS := hid hsz
      clear hn hsz
      generalize l.getD i 0 = x at *
      have hs2 : s.size + 1 ≤ 9223372036854775807 := by have := HS.out; omega
      by_cases h1 : x % 2 = 1
      · have d1 : (x % 2 == 1) = true := by simpa using h1
        have hg : Is (sgn x) 49 := by unfold Is sgn; rw [if_pos h1]
        clear h1
        go_wp2_with fail
        go_roundg (gk - 1)
        case rel => exact ⟨i + 1, _, by omega, by go_num, rfl, by rw [HN.out, hg.eq]; unfold Is; simp, by have := HS.out; rw [ByteArray.size_append]; show s.size + 1 = i + 1; omega, (by repeat (first | with_reducible exact Ext.refl _ | with_reducible assumption | with_reducible apply Ext.alloc | with_reducible apply Ext.drew | with_reducible apply Ext.drewN | (with_reducible refine Ext.set' ?_ (by first | omega | (simp only [World.size_alloc, World.size_setCell]; omega))) | (with_reducible refine Ext.trans ?_ (by with_reducible assumption)) | (with_reducible refine Ext.only ?_ (by with_reducible assumption) (by omega))))⟩
        case measure => omega
      · have d1 : (x % 2 == 1) = false := by simpa using h1
        have hg : Is (sgn x) 48 := by unfold Is sgn; rw [if_neg h1]
        clear h1
        go_wp2_with fail
        go_roundg (gk - 1)
        case rel => exact ⟨i + 1, _, by omega, by go_num, rfl, by rw [HN.out, hg.eq]; unfold Is; simp, by have := HS.out; rw [ByteArray.size_append]; show s.size + 1 = i + 1; omega, (by repeat (first | with_reducible exact Ext.refl _ | with_reducible assumption | with_reducible apply Ext.alloc | with_reducible apply Ext.drew | with_reducible apply Ext.drewN | (with_reducible refine Ext.set' ?_ (by first | omega | (simp only [World.size_alloc, World.size_setCell]; omega))) | (with_reducible refine Ext.trans ?_ (by with_reducible assumption)) | (with_reducible refine Ext.only ?_ (by with_reducible assumption) (by omega))))⟩
        case measure => omega
    · have hr' := hr.eq
      rw [List.take_of_length_le (by omega)] at hr'
      have HR := hid hr'
      clear hr' hr
      go_wp2_with fail
      go_ret
      exact ⟨by rw [← HR.out, Array.toArray_toList]; rfl, (by repeat (first | with_reducible exact Ext.refl _ | with_reducible assumption | with_reducible apply Ext.alloc | with_reducible apply Ext.drew | with_reducible apply Ext.drewN | (with_reducible refine Ext.set' ?_ (by first | omega | (simp only [World.size_alloc, World.size_setCell]; omega))) | (with_reducible refine Ext.trans ?_ (by with_reducible assumption)) | (with_reducible refine Ext.only ?_ (by with_reducible assumption) (by omega))))⟩

end Go.Proofs.Ytobllheaadmbgaa
