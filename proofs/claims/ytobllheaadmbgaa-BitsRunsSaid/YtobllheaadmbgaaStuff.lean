/- 'run.add', 'bits.Stuff', 'bits.Unstuff': what they compute. -/
import Derived.Test.YtobllheaadmbgaaAuto
set_option linter.unusedSimpArgs false
set_option linter.unusedVariables false
set_option linter.unnecessarySimpa false
namespace Go.Proofs.Ytobllheaadmbgaa
open Go.RowKit Go.Proofs.YtobllheaadmbgaaW.PrintWords
attribute [local go_sem] max2_max min2_min max_of_two min_of_two

def addN (b n c : Int) : Int := if 0 < n ∧ b = c then n + 1 else 1
theorem addN_range (b n c : Int) (h : 0 ≤ n) (m : Int) (hm : n ≤ m) : 1 ≤ addN b n c ∧ addN b n c ≤ m + 1 := by unfold addN; split <;> omega

/-- What is put behind 'out', a run of n bits b being at its end. -/
def stuffL : List Int → Int → Int → List Int → List Int
  | out, _, _, [] => out
  | out, b, n, x :: t => if addN b n (x % 2) = 5 then stuffL (out ++ [x % 2] ++ [1 - x % 2]) (1 - x % 2) (addN (x % 2) 5 (1 - x % 2)) t else stuffL (out ++ [x % 2]) (x % 2) (addN b n (x % 2)) t

def unL : List Int → Int → Int → List Int → List Int × Int
  | out, _, n, [] => if n = 5 then ([], 5) else (out, 0)
  | out, b, n, x :: t => if n < 5 then unL (out ++ [x % 2]) (x % 2) (addN b n (x % 2)) t else if x % 2 = b then ([], 9) else unL out (x % 2) (addN b n (x % 2)) t

abbrev RT : TypeId := 57

set_option maxHeartbeats 400000 in
theorem add_c (b n c : Int) (w : World) (h0 : 0 ≤ n) (h1 : n ≤ 9223372036854775806) :
    Calls Try.prog 29 #[.agg #[.int .u8 b, .int .i64 n], .int .u8 c] w fun e w' => e = .returned (.agg #[.int .u8 c, .int .i64 (addN b n c)]) ∧ Ext w w' := by
  have hd : (decide (0 < n) = false ∧ Is (addN b n c) 1) ∨ (decide (0 < n) = true ∧ (b == c) = false ∧ Is (addN b n c) 1) ∨ (decide (0 < n) = true ∧ (b == c) = true ∧ Is (addN b n c) (n + 1)) := by
    unfold addN Is
    by_cases h : 0 < n <;> by_cases h' : b = c <;> simp [h, h']
  rcases hd with ⟨d1, hr⟩ | ⟨d1, d2, hr⟩ | ⟨d1, d2, hr⟩
  all_goals
    go_enter Try.func29, Try.ntmps29
    go_wp2_with fail
  · exact bodyPost_ret (v := .agg #[.int .u8 c, .int .i64 1]) (by simp [results, Try.results29, go_sem]) rfl ⟨by rw [hr.eq], (by repeat (first | with_reducible exact Ext.refl _ | with_reducible assumption | with_reducible apply Ext.alloc | with_reducible apply Ext.drew | with_reducible apply Ext.drewN | (with_reducible refine Ext.set' ?_ (by first | omega | (simp only [World.size_alloc, World.size_setCell]; omega))) | (with_reducible refine Ext.trans ?_ (by with_reducible assumption)) | (with_reducible refine Ext.only ?_ (by with_reducible assumption) (by omega))))⟩
  · exact bodyPost_ret (v := .agg #[.int .u8 c, .int .i64 1]) (by simp [results, Try.results29, go_sem]) rfl ⟨by rw [hr.eq], (by repeat (first | with_reducible exact Ext.refl _ | with_reducible assumption | with_reducible apply Ext.alloc | with_reducible apply Ext.drew | with_reducible apply Ext.drewN | (with_reducible refine Ext.set' ?_ (by first | omega | (simp only [World.size_alloc, World.size_setCell]; omega))) | (with_reducible refine Ext.trans ?_ (by with_reducible assumption)) | (with_reducible refine Ext.only ?_ (by with_reducible assumption) (by omega))))⟩
  · exact bodyPost_ret (v := .agg #[.int .u8 c, .int .i64 (n + 1)]) (by simp [results, Try.results29, go_sem]) rfl ⟨by rw [hr.eq], (by repeat (first | with_reducible exact Ext.refl _ | with_reducible assumption | with_reducible apply Ext.alloc | with_reducible apply Ext.drew | with_reducible apply Ext.drewN | (with_reducible refine Ext.set' ?_ (by first | omega | (simp only [World.size_alloc, World.size_setCell]; omega))) | (with_reducible refine Ext.trans ?_ (by with_reducible assumption)) | (with_reducible refine Ext.only ?_ (by with_reducible assumption) (by omega))))⟩

set_option maxHeartbeats 2000000 in
theorem stuff_c (v : Value) (l : List Int) (w : World) (hv : Bs w v l) (hs : l.length ≤ 50000000000000) :
    Calls Try.prog 23 #[v] w fun e w' => ∃ v', e = .returned v' ∧ Own8 w' w.heap.size v' (stuffL [] 0 0 l) ∧ Ext w w' := by
  obtain ⟨A, bl, o, c, rfl, hlc, hrow, hb⟩ := hv
  obtain ⟨R, hR⟩ : ∃ R, Is (stuffL [] 0 0 l) R := ⟨_, rfl⟩
  rw [hR.eq]
  go_enter Try.func23, Try.ntmps23
  go_wp2_with (first | (at_make; refine mk8_own rfl _ _ rfl w.heap.size (l.length + l.length / 4) rfl rfl (by simp) (by omega) (Nat.le_refl _) ?_; intro v0 w0 o0 k0 e0; have K0 := Ext.of k0; have bk0 := Blk.new w0 #[.int .u8 0, .int .i64 0] RT; clear k0 e0))
  have hg0 : w.heap.size ≤ w0.heap.size := K0.le
  go_loopg [3, 16] l.length (fun k v3 v16 wr => ∃ (i : Nat) (out : List Int) (b n : Int), i + k = l.length ∧ v16 = .int .i64 i ∧ Own8 wr w.heap.size v3 out ∧ Blk wr w0.heap.size #[.int .u8 b, .int .i64 n] RT ∧ out.length ≤ 2 * i ∧ 0 ≤ n ∧ n ≤ i ∧ Is (stuffL out b n (l.drop i)) R ∧ Ext w wr)
  case atStart => exact ⟨0, [], 0, 0, by omega, rfl, o0.alloc _, bk0, by simp, by omega, by omega, by simpa using hR, (by repeat (first | with_reducible exact Ext.refl _ | with_reducible assumption | with_reducible apply Ext.alloc | with_reducible apply Ext.drew | with_reducible apply Ext.drewN | (with_reducible refine Ext.set' ?_ (by first | omega | (simp only [World.size_alloc, World.size_setCell]; omega))) | (with_reducible refine Ext.trans ?_ (by with_reducible assumption)) | (with_reducible refine Ext.only ?_ (by with_reducible assumption) (by omega))))⟩
  case round =>
    obtain ⟨i, out, b, n, hik, rfl, ho, bk, hol, hn0, hn1, hres, KR⟩ := hrel
    by_cases hlt : i < l.length
    · have hx := hb.at hlt
      obtain ⟨rfl, hc⟩ := hrow.cell (b := wr) KR hlt
      have hd := drop_getD hlt
      have HD := hid hd
      clear hd
      generalize l.getD i 0 = x at *
      have ha := hid (and1 hx.1 hx.2)
      have hns := addN_range b n (x % 2) hn0 i hn1
      go_wp2_with (at_builtin; go_must (refine app8k rfl (.tmp 22) (.tmp 24) rfl w.heap.size rfl rfl (by first | with_reducible rfl | simp only [World.size_alloc, World.size_setCell] | rfl | simp) ho (by first | omega | (simp only [List.length_append, List.length_cons, List.length_nil]; omega)) (Ext.le (by repeat (first | with_reducible exact Ext.refl _ | with_reducible assumption | with_reducible apply Ext.alloc | with_reducible apply Ext.drew | with_reducible apply Ext.drewN | (with_reducible refine Ext.set' ?_ (by first | omega | (simp only [World.size_alloc, World.size_setCell]; omega))) | (with_reducible refine Ext.trans ?_ (by with_reducible assumption)) | (with_reducible refine Ext.only ?_ (by with_reducible assumption) (by omega))))) ?_); intro v1 w1 o1 k1 kk1; have K1 : Ext w w1 := Ext.back (by repeat (first | with_reducible exact Ext.refl _ | with_reducible assumption | with_reducible apply Ext.alloc | with_reducible apply Ext.drew | with_reducible apply Ext.drewN | (with_reducible refine Ext.set' ?_ (by first | omega | (simp only [World.size_alloc, World.size_setCell]; omega))) | (with_reducible refine Ext.trans ?_ (by with_reducible assumption)) | (with_reducible refine Ext.only ?_ (by with_reducible assumption) (by omega)))) k1; clear k1; (rw [ha.out] at o1; have b1 := kk1.blk bk (by decide); obtain ⟨pc0, pc1, pf0, pf1⟩ := Blk.cells2 b1))
      rw [ha.out]
      refine (add_c b n (x % 2) _ hn0 (by omega)).mono ?_
      rintro e w2 ⟨rfl, k2⟩
      have b2 := k2.blk b1
      obtain ⟨qc0, qc1, qf0, qf1⟩ := Blk.cells2 b2
      have hx2 : 0 ≤ x % 2 ∧ x % 2 ≤ 1 := by omega
      have o2 := ((k2.own o1).far (i := 0) (u := .int .u8 (x % 2)) b2 (by decide)).far (i := 1) (u := .int .i64 (addN b n (x % 2))) (b2.set 0 (.int .u8 (x % 2))) (by decide)
      have b3 := (b2.set 0 (.int .u8 (x % 2))).set 1 (.int .i64 (addN b n (x % 2)))
      have hres' := hres
      rw [HD.out] at hres'
      simp only [stuffL] at hres'
      generalize addN b n (x % 2) = m at *
      generalize x % 2 = xc at *
      by_cases h5 : m = 5
      · subst h5
        rw [if_pos rfl] at hres'
        have hns2 := addN_range xc 5 (1 - xc) (by omega) 5 (by omega)
        go_wp2_with (at_builtin; go_must (refine app8k rfl (.tmp 32) (.tmp 35) rfl w.heap.size rfl rfl (by first | with_reducible rfl | simp only [World.size_alloc, World.size_setCell] | rfl | simp) o2 (by first | omega | (simp only [List.length_append, List.length_cons, List.length_nil]; omega)) (Ext.le (by repeat (first | with_reducible exact Ext.refl _ | with_reducible assumption | with_reducible apply Ext.alloc | with_reducible apply Ext.drew | with_reducible apply Ext.drewN | (with_reducible refine Ext.set' ?_ (by first | omega | (simp only [World.size_alloc, World.size_setCell]; omega))) | (with_reducible refine Ext.trans ?_ (by with_reducible assumption)) | (with_reducible refine Ext.only ?_ (by with_reducible assumption) (by omega))))) ?_); intro v3 w3 o3 k3 kk3; have K3 : Ext w w3 := Ext.back (by repeat (first | with_reducible exact Ext.refl _ | with_reducible assumption | with_reducible apply Ext.alloc | with_reducible apply Ext.drew | with_reducible apply Ext.drewN | (with_reducible refine Ext.set' ?_ (by first | omega | (simp only [World.size_alloc, World.size_setCell]; omega))) | (with_reducible refine Ext.trans ?_ (by with_reducible assumption)) | (with_reducible refine Ext.only ?_ (by with_reducible assumption) (by omega)))) k3; clear k3; (have b4 := kk3.blk b3 (by decide); obtain ⟨pc0, pc1, pf0, pf1⟩ := Blk.cells2 b4))
        refine (add_c xc 5 (1 - xc) _ (by omega) (by omega)).mono ?_
        rintro e w5 ⟨rfl, k5⟩
        have b5 := k5.blk b4
        obtain ⟨qc0, qc1, qf0, qf1⟩ := Blk.cells2 b5
        have o5 := ((k5.own o3).far (i := 0) (u := .int .u8 (1 - xc)) b5 (by decide)).far (i := 1) (u := .int .i64 (addN xc 5 (1 - xc))) (b5.set 0 (.int .u8 (1 - xc))) (by decide)
        have b6 := (b5.set 0 (.int .u8 (1 - xc))).set 1 (.int .i64 (addN xc 5 (1 - xc)))
        have hm3 : addN xc 5 (1 - xc) = 1 := by unfold addN; rw [if_neg]; omega
        have HM := hid hm3
        clear hm3
        generalize addN xc 5 (1 - xc) = m3 at *
        go_wp2_with fail
        go_roundg (gk - 1)
        case rel => exact ⟨i + 1, _, _, m3, by omega, by go_num, o5, b6, by simp; omega, by omega, by have := HM.out; omega, hres', (by repeat (first | with_reducible exact Ext.refl _ | with_reducible assumption | with_reducible apply Ext.alloc | with_reducible apply Ext.drew | with_reducible apply Ext.drewN | (with_reducible refine Ext.set' ?_ (by first | omega | (simp only [World.size_alloc, World.size_setCell]; omega))) | (with_reducible refine Ext.trans ?_ (by with_reducible assumption)) | (with_reducible refine Ext.only ?_ (by with_reducible assumption) (by omega))))⟩
        case measure => omega
      · rw [if_neg h5] at hres'
        have d5 : (m == 5) = false := by simpa using h5
        clear h5
        go_wp2_with fail
        go_roundg (gk - 1)
        case rel => exact ⟨i + 1, _, _, m, by omega, by go_num, o2, b3, by simp; omega, by omega, by omega, hres', (by repeat (first | with_reducible exact Ext.refl _ | with_reducible assumption | with_reducible apply Ext.alloc | with_reducible apply Ext.drew | with_reducible apply Ext.drewN | (with_reducible refine Ext.set' ?_ (by first | omega | (simp only [World.size_alloc, World.size_setCell]; omega))) | (with_reducible refine Ext.trans ?_ (by with_reducible assumption)) | (with_reducible refine Ext.only ?_ (by with_reducible assumption) (by omega))))⟩
        case measure => omega
    · have hi : i = l.length := by omega
      have hres' := hres
      rw [hi, List.drop_length] at hres'
      simp only [stuffL] at hres'
      have HR := hid hres'.eq
      clear hi hres' hres
      go_wp2_with fail
      go_ret
      exact ⟨_, rfl, by rw [← HR.out]; exact ho, KR⟩

set_option maxHeartbeats 2000000 in
theorem unstuff_c (v : Value) (l : List Int) (w : World) (hv : Bs w v l) (hs : l.length ≤ 50000000000000) :
    Calls Try.prog 21 #[v] w fun e w' => ∃ v', e = .returned (.tuple #[v', .int .i64 (unL [] 0 0 l).2]) ∧ Own8 w' w.heap.size v' (unL [] 0 0 l).1 ∧ Ext w w' := by
  obtain ⟨A, bl, o, c, rfl, hlc, hrow, hb⟩ := hv
  obtain ⟨R, hR⟩ : ∃ R, Is (unL [] 0 0 l) R := ⟨_, Is.refl _⟩
  rw [hR.eq]
  go_enter Try.func21, Try.ntmps21
  go_wp2_with fail
  have bk0 := Blk.new w #[.int .u8 0, .int .i64 0] RT
  go_loopg [4, 10] l.length (fun k v4 v10 wr => ∃ (i : Nat) (out : List Int) (b n : Int), i + k = l.length ∧ v10 = .int .i64 i ∧ Own8 wr w.heap.size v4 out ∧ Blk wr w.heap.size #[.int .u8 b, .int .i64 n] RT ∧ out.length ≤ i ∧ 0 ≤ n ∧ n ≤ i ∧ Is (unL out b n (l.drop i)) R ∧ Ext w wr)
  case atStart => exact ⟨0, [], 0, 0, by omega, rfl, Own8.nil _ _, bk0, by simp, by omega, by omega, hR, (by repeat (first | with_reducible exact Ext.refl _ | with_reducible assumption | with_reducible apply Ext.alloc | with_reducible apply Ext.drew | with_reducible apply Ext.drewN | (with_reducible refine Ext.set' ?_ (by first | omega | (simp only [World.size_alloc, World.size_setCell]; omega))) | (with_reducible refine Ext.trans ?_ (by with_reducible assumption)) | (with_reducible refine Ext.only ?_ (by with_reducible assumption) (by omega))))⟩
  case round =>
    clear bk0 hR
    obtain ⟨i, out, b, n, hik, rfl, ho, bk, hol, hn0, hn1, hr, K⟩ := hrel
    obtain ⟨pc0, pc1, pf0, pf1⟩ := Blk.cells2 bk
    by_cases hlt : i < l.length
    · have hx := hb.at hlt
      obtain ⟨rfl, hc⟩ := hrow.cell K hlt
      have hr' := hr
      rw [drop_getD hlt] at hr'
      simp only [unL] at hr'
      generalize l.getD i 0 = x at *
      have ha := hid (and1 hx.1 hx.2)
      have hns := addN_range b n (x % 2) hn0 i hn1
      by_cases h5 : n < 5
      · rw [if_pos h5] at hr'
        go_wp2_with (at_builtin; go_must (refine app8k rfl (.tmp 19) (.tmp 21) rfl w.heap.size rfl rfl (by first | with_reducible rfl | simp only [World.size_alloc, World.size_setCell] | rfl | simp) ho (by first | omega | (simp only [List.length_append, List.length_cons, List.length_nil]; omega)) (Ext.le (by repeat (first | with_reducible exact Ext.refl _ | with_reducible assumption | with_reducible apply Ext.alloc | with_reducible apply Ext.drew | with_reducible apply Ext.drewN | (with_reducible refine Ext.set' ?_ (by first | omega | (simp only [World.size_alloc, World.size_setCell]; omega))) | (with_reducible refine Ext.trans ?_ (by with_reducible assumption)) | (with_reducible refine Ext.only ?_ (by with_reducible assumption) (by omega))))) ?_); intro v1 w1 o1 k1 kk1; have K1 : Ext w w1 := Ext.back (by repeat (first | with_reducible exact Ext.refl _ | with_reducible assumption | with_reducible apply Ext.alloc | with_reducible apply Ext.drew | with_reducible apply Ext.drewN | (with_reducible refine Ext.set' ?_ (by first | omega | (simp only [World.size_alloc, World.size_setCell]; omega))) | (with_reducible refine Ext.trans ?_ (by with_reducible assumption)) | (with_reducible refine Ext.only ?_ (by with_reducible assumption) (by omega)))) k1; clear k1; (rw [ha.out] at o1; have b1 := kk1.blk bk (by decide); obtain ⟨qc0, qc1, qf0, qf1⟩ := Blk.cells2 b1))
        rw [ha.out]
        refine (add_c b n (x % 2) _ hn0 (by omega)).mono ?_
        rintro e w2 ⟨rfl, k2⟩
        have b2 := k2.blk b1
        obtain ⟨rc0, rc1, rf0, rf1⟩ := Blk.cells2 b2
        have o2 := ((k2.own o1).far (i := 0) (u := .int .u8 (x % 2)) b2 (by decide)).far (i := 1) (u := .int .i64 (addN b n (x % 2))) (b2.set 0 (.int .u8 (x % 2))) (by decide)
        have b3 := (b2.set 0 (.int .u8 (x % 2))).set 1 (.int .i64 (addN b n (x % 2)))
        generalize addN b n (x % 2) = m at *
        go_wp2_with fail
        go_roundg (gk - 1)
        case rel => exact ⟨i + 1, _, _, m, by omega, by go_num, o2, b3, by simp; omega, by omega, by omega, hr', (by repeat (first | with_reducible exact Ext.refl _ | with_reducible assumption | with_reducible apply Ext.alloc | with_reducible apply Ext.drew | with_reducible apply Ext.drewN | (with_reducible refine Ext.set' ?_ (by first | omega | (simp only [World.size_alloc, World.size_setCell]; omega))) | (with_reducible refine Ext.trans ?_ (by with_reducible assumption)) | (with_reducible refine Ext.only ?_ (by with_reducible assumption) (by omega))))⟩
        case measure => omega
      · rw [if_neg h5] at hr'
        by_cases hxb : x % 2 = b
        · rw [if_pos hxb] at hr'
          have d6 : (b == b) = true := by simp
          have ha2 : Hid (bits .and .u8 x 1 = b) := hid (by rw [ha.out, hxb])
          have HR := hid hr'.eq
          clear hr' hxb
          have d7 : (bits .and .u8 x 1 == b) = true := by rw [ha2.out]; simp
          go_wp2_with fail
          go_ret2
          exact ⟨_, by rw [← HR.out]; first | done | rfl, by rw [← HR.out]; exact Own8.nil _ _, (by repeat (first | with_reducible exact Ext.refl _ | with_reducible assumption | with_reducible apply Ext.alloc | with_reducible apply Ext.drew | with_reducible apply Ext.drewN | (with_reducible refine Ext.set' ?_ (by first | omega | (simp only [World.size_alloc, World.size_setCell]; omega))) | (with_reducible refine Ext.trans ?_ (by with_reducible assumption)) | (with_reducible refine Ext.only ?_ (by with_reducible assumption) (by omega))))⟩
        · rw [if_neg hxb] at hr'
          have d6 : (bits .and .u8 x 1 == b) = false := by rw [ha.out]; simpa using hxb
          clear hxb
          go_wp2_with fail
          rw [ha.out]
          refine (add_c b n (x % 2) _ hn0 (by omega)).mono ?_
          rintro e w2 ⟨rfl, k2⟩
          have b2 := k2.blk bk
          obtain ⟨rc0, rc1, rf0, rf1⟩ := Blk.cells2 b2
          have o2 := ((k2.own ho).far (i := 0) (u := .int .u8 (x % 2)) b2 (by decide)).far (i := 1) (u := .int .i64 (addN b n (x % 2))) (b2.set 0 (.int .u8 (x % 2))) (by decide)
          have b3 := (b2.set 0 (.int .u8 (x % 2))).set 1 (.int .i64 (addN b n (x % 2)))
          generalize addN b n (x % 2) = m at *
          go_wp2_with fail
          go_roundg (gk - 1)
          case rel => exact ⟨i + 1, _, _, m, by omega, by go_num, o2, b3, by omega, by omega, by omega, hr', (by repeat (first | with_reducible exact Ext.refl _ | with_reducible assumption | with_reducible apply Ext.alloc | with_reducible apply Ext.drew | with_reducible apply Ext.drewN | (with_reducible refine Ext.set' ?_ (by first | omega | (simp only [World.size_alloc, World.size_setCell]; omega))) | (with_reducible refine Ext.trans ?_ (by with_reducible assumption)) | (with_reducible refine Ext.only ?_ (by with_reducible assumption) (by omega))))⟩
          case measure => omega
    · have hr' := hr.eq
      rw [List.drop_of_length_le (by omega)] at hr'
      simp only [unL] at hr'
      clear hr
      by_cases h5 : n = 5
      · rw [if_pos h5] at hr'
        subst h5
        have HR := hid hr'
        clear hr'
        go_wp2_with fail
        go_ret2
        exact ⟨_, by rw [← HR.out]; first | done | rfl, by rw [← HR.out]; exact Own8.nil _ _, (by repeat (first | with_reducible exact Ext.refl _ | with_reducible assumption | with_reducible apply Ext.alloc | with_reducible apply Ext.drew | with_reducible apply Ext.drewN | (with_reducible refine Ext.set' ?_ (by first | omega | (simp only [World.size_alloc, World.size_setCell]; omega))) | (with_reducible refine Ext.trans ?_ (by with_reducible assumption)) | (with_reducible refine Ext.only ?_ (by with_reducible assumption) (by omega))))⟩
      · rw [if_neg h5] at hr'
        have d5 : (n == 5) = false := by simpa using h5
        have HR := hid hr'
        clear hr' h5
        go_wp2_with fail
        go_ret2
        exact ⟨_, by rw [← HR.out]; first | done | rfl, by rw [← HR.out]; exact ho, (by repeat (first | with_reducible exact Ext.refl _ | with_reducible assumption | with_reducible apply Ext.alloc | with_reducible apply Ext.drew | with_reducible apply Ext.drewN | (with_reducible refine Ext.set' ?_ (by first | omega | (simp only [World.size_alloc, World.size_setCell]; omega))) | (with_reducible refine Ext.trans ?_ (by with_reducible assumption)) | (with_reducible refine Ext.only ?_ (by with_reducible assumption) (by omega))))⟩

end Go.Proofs.Ytobllheaadmbgaa
