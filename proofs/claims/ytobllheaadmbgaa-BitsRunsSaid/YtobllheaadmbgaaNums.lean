/- Numbers and their bits: 'bits.Of', 'bits.Num', 'bits.Parse', and the reference's Of, Num, Text. -/
import Derived.Test.YtobllheaadmbgaaRefs2
import Derived.Test.YtobllheaadmbgaaStuff
set_option linter.unusedSimpArgs false
set_option linter.unusedVariables false
set_option linter.unnecessarySimpa false
namespace Go.Proofs.Ytobllheaadmbgaa
open Go.RowKit Go.Proofs.YtobllheaadmbgaaW.PrintWords
attribute [local go_sem] max2_max min2_min max_of_two min_of_two

/-- A number's bits, by halves. -/
def ofL : Nat → Int → List Int → List Int
  | 0, _, acc => acc
  | j + 1, n, acc => ofL j (n / 2) (n % 2 :: acc)

set_option maxHeartbeats 2000000 in
theorem of_c (n y : Int) (w : World) (h0 : 0 ≤ n) (h1 : n ≤ 4294967295) :
    Calls Try.prog 15 #[.int .u32 n, .int .i64 y] w fun e w' => ∃ v', e = .returned v' ∧ Own8 w' w.heap.size v' (ofL (min y 32).toNat n []) ∧ Ext w w' := by
  obtain ⟨R, hR⟩ : ∃ R, Is (ofL (min y 32).toNat n []) R := ⟨_, Is.refl _⟩
  rw [hR.eq]
  by_cases hy : y < 1
  · have hr := hR.eq
    rw [show (min y 32).toNat = 0 by omega] at hr
    simp only [ofL] at hr
    subst hr
    clear hR
    go_enter Try.func15, Try.ntmps15
    go_wp2_with fail
    go_ret
    exact ⟨_, rfl, Own8.nil _ _, (by repeat (first | with_reducible exact Ext.refl _ | with_reducible assumption | with_reducible apply Ext.alloc | with_reducible apply Ext.drew | with_reducible apply Ext.drewN | (with_reducible refine Ext.set' ?_ (by first | omega | (simp only [World.size_alloc, World.size_setCell]; omega))) | (with_reducible refine Ext.trans ?_ (by with_reducible assumption)) | (with_reducible refine Ext.only ?_ (by with_reducible assumption) (by omega))))⟩
  · obtain ⟨m, hm⟩ : ∃ m : Nat, min y 32 = m := ⟨(min y 32).toNat, by omega⟩
    have hm1 : 1 ≤ m := by omega
    have hm2 : m ≤ 32 := by omega
    rw [hm, Int.toNat_natCast] at hR
    have HM := hid hm
    clear hm
    go_enter Try.func15, Try.ntmps15
    go_wp2_with (first | (at_make; rw [HM.out]; refine mk8_full rfl _ _ rfl w.heap.size m rfl rfl rfl rfl (by omega) (Nat.le_refl _) ?_; intro v0 w0 o0 k0 e0; have K0 := Ext.of k0; clear k0 e0; obtain ⟨g, c, e1, hg, hmc⟩ := o0.shape (by simp; omega); rw [List.length_replicate] at e1 hmc; subst e1))
    go_loopg [0, 6] m (fun k u0 u6 wr => ∃ (nn z : Int) (acc : List Int), k ≤ m ∧ u0 = .int .u32 nn ∧ u6 = .int .i64 z ∧ z ≤ k - 1 ∧ (k : Int) - 1 ≤ z ∧ Own8 wr w.heap.size (.slice (some ⟨g, 0, none⟩) m c) (List.replicate k 0 ++ acc) ∧ Is (ofL k nn acc) R ∧ 0 ≤ nn ∧ nn ≤ 4294967295 ∧ Ext w wr)
    case atStart => exact ⟨n, _, [], Nat.le_refl _, rfl, rfl, by omega, by omega, by rw [List.append_nil]; exact o0, hR, h0, h1, (by repeat (first | with_reducible exact Ext.refl _ | with_reducible assumption | with_reducible apply Ext.alloc | with_reducible apply Ext.drew | with_reducible apply Ext.drewN | (with_reducible refine Ext.set' ?_ (by first | omega | (simp only [World.size_alloc, World.size_setCell]; omega))) | (with_reducible refine Ext.trans ?_ (by with_reducible assumption)) | (with_reducible refine Ext.only ?_ (by with_reducible assumption) (by omega))))⟩
    case round =>
      clear o0 hR
      obtain ⟨nn, z, acc, hkm, rfl, rfl, hz0, hz1, ho, hr, hn0, hn1, K⟩ := hrel
      by_cases hk : gk = 0
      · subst hk
        have hzz : z < 0 := by omega
        have hr' := hr.eq
        simp only [ofL] at hr'
        have HR := hid hr'
        clear hr hr'
        go_wp2_with fail
        go_ret
        exact ⟨_, rfl, by rw [← HR.out]; exact ho, (by repeat (first | with_reducible exact Ext.refl _ | with_reducible assumption | with_reducible apply Ext.alloc | with_reducible apply Ext.drew | with_reducible apply Ext.drewN | (with_reducible refine Ext.set' ?_ (by first | omega | (simp only [World.size_alloc, World.size_setCell]; omega))) | (with_reducible refine Ext.trans ?_ (by with_reducible assumption)) | (with_reducible refine Ext.only ?_ (by with_reducible assumption) (by omega))))⟩
      · obtain ⟨i, rfl⟩ : ∃ i, gk = i + 1 := ⟨gk - 1, by omega⟩
        obtain rfl : z = (i : Int) := by omega
        have ha := hid (and1_32 hn0 hn1)
        have hr' := hr
        simp only [ofL] at hr'
        obtain ⟨hc, hf, hput⟩ := ho.put (i := i) (by simp; omega)
        have o1 := hput (nn % 2)
        have hset : (List.replicate (i + 1) (0 : Int) ++ acc).set i (nn % 2) = List.replicate i 0 ++ nn % 2 :: acc := by
          rw [List.replicate_succ', List.append_assoc, List.set_append_right _ _ (by simp)]
          simp
        rw [hset] at o1
        have i0 : (0 : Int) ≤ (i : Int) := by omega
        have i1 : (i : Int) < (m : Int) := by omega
        generalize (List.replicate (i + 1) (0 : Int) ++ acc).getD i 0 = q at *
        clear hput hset ho
        go_wp2_with fail
        go_roundg i
        case rel => exact ⟨nn / 2, _, nn % 2 :: acc, by omega, by first | rfl | (go_num), rfl, by omega, by omega, by rw [ha.out, show (nn % 2) % 256 = nn % 2 by omega]; exact o1, hr', by omega, by omega, (by repeat (first | with_reducible exact Ext.refl _ | with_reducible assumption | with_reducible apply Ext.alloc | with_reducible apply Ext.drew | with_reducible apply Ext.drewN | (with_reducible refine Ext.set' ?_ (by first | omega | (simp only [World.size_alloc, World.size_setCell]; omega))) | (with_reducible refine Ext.trans ?_ (by with_reducible assumption)) | (with_reducible refine Ext.only ?_ (by with_reducible assumption) (by omega))))⟩
        case measure => omega

def numL : Int → List Int → Int
  | n, [] => n
  | n, x :: t => numL ((n * 2) % 4294967296 + x % 2) t

set_option maxHeartbeats 2000000 in
theorem num_c (v : Value) (l : List Int) (w : World) (hv : Bs w v l) :
    Calls Try.prog 16 #[v] w fun e w' => e = .returned (.tuple #[.int .u32 (if l.length > 32 then 0 else numL 0 l), .int .i64 (if l.length > 32 then 13 else 0)]) ∧ Ext w w' := by
  obtain ⟨A, bl, o, c, rfl, hlc, hrow, hb⟩ := hv
  have hl0 := hrow.1
  by_cases h32 : l.length > 32
  · rw [if_pos h32, if_pos h32]
    go_enter Try.func16, Try.ntmps16
    go_wp2_with fail
    go_ret2
    exact ⟨rfl, (by repeat (first | with_reducible exact Ext.refl _ | with_reducible assumption | with_reducible apply Ext.alloc | with_reducible apply Ext.drew | with_reducible apply Ext.drewN | (with_reducible refine Ext.set' ?_ (by first | omega | (simp only [World.size_alloc, World.size_setCell]; omega))) | (with_reducible refine Ext.trans ?_ (by with_reducible assumption)) | (with_reducible refine Ext.only ?_ (by with_reducible assumption) (by omega))))⟩
  · rw [if_neg h32, if_neg h32]
    obtain ⟨R, hR⟩ : ∃ R, Is (numL 0 l) R := ⟨_, Is.refl _⟩
    rw [hR.eq]
    go_enter Try.func16, Try.ntmps16
    go_wp2_with fail
    go_loopg [4, 12] l.length (fun k v4 v12 wr => ∃ (i : Nat) (n : Int), i + k = l.length ∧ v12 = .int .i64 i ∧ v4 = .int .u32 n ∧ 0 ≤ n ∧ n ≤ 4294967295 ∧ Is (numL n (l.drop i)) R ∧ Ext w wr)
    case atStart => exact ⟨0, 0, by omega, rfl, rfl, by omega, by omega, hR, (by repeat (first | with_reducible exact Ext.refl _ | with_reducible assumption | with_reducible apply Ext.alloc | with_reducible apply Ext.drew | with_reducible apply Ext.drewN | (with_reducible refine Ext.set' ?_ (by first | omega | (simp only [World.size_alloc, World.size_setCell]; omega))) | (with_reducible refine Ext.trans ?_ (by with_reducible assumption)) | (with_reducible refine Ext.only ?_ (by with_reducible assumption) (by omega))))⟩
    case round =>
      clear hR
      obtain ⟨i, n, hik, rfl, rfl, hn0, hn1, hr, K⟩ := hrel
      by_cases hlt : i < l.length
      · have hx := hb.at hlt
        obtain ⟨rfl, hc⟩ := hrow.cell K hlt
        have hr' := hr
        rw [drop_getD hlt] at hr'
        simp only [numL] at hr'
        generalize l.getD i 0 = x at *
        have ha := hid (and1 hx.1 hx.2)
        have hor := hid (or1_32 (y := n * 2 % 4294967296) (b := x % 2) (by omega) (by omega) (by omega) (by omega) (by omega))
        go_wp2_with fail
        go_roundg (gk - 1)
        case rel => exact ⟨i + 1, n * 2 % 4294967296 + x % 2, by omega, by go_num, by rw [ha.out, show (x % 2) % 4294967296 = x % 2 by omega, hor.out], by omega, by omega, hr', (by repeat (first | with_reducible exact Ext.refl _ | with_reducible assumption | with_reducible apply Ext.alloc | with_reducible apply Ext.drew | with_reducible apply Ext.drewN | (with_reducible refine Ext.set' ?_ (by first | omega | (simp only [World.size_alloc, World.size_setCell]; omega))) | (with_reducible refine Ext.trans ?_ (by with_reducible assumption)) | (with_reducible refine Ext.only ?_ (by with_reducible assumption) (by omega))))⟩
        case measure => omega
      · have hr' := hr.eq
        rw [List.drop_of_length_le (by omega)] at hr'
        simp only [numL] at hr'
        have HR := hid hr'
        clear hr' hr
        go_wp2_with fail
        go_ret2
        exact ⟨by rw [← HR.out]; first | done | rfl, (by repeat (first | with_reducible exact Ext.refl _ | with_reducible assumption | with_reducible apply Ext.alloc | with_reducible apply Ext.drew | with_reducible apply Ext.drewN | (with_reducible refine Ext.set' ?_ (by first | omega | (simp only [World.size_alloc, World.size_setCell]; omega))) | (with_reducible refine Ext.trans ?_ (by with_reducible assumption)) | (with_reducible refine Ext.only ?_ (by with_reducible assumption) (by omega))))⟩

end Go.Proofs.Ytobllheaadmbgaa
