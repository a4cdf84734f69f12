import Derived.Test.YtjlhbgkmebinjaaPieces
import Derived.RegionTactic
set_option linter.unusedSimpArgs false
set_option linter.unusedVariables false
set_option linter.unnecessarySimpa false
namespace Go.Proofs.Ytjlhbgkmebinjaa
open Go.RowKit Go.Proofs.YtjlhbgkmebinjaaW.PrintWords
open Go.Proofs.Ytjlhbgkmebinjaa.Pure (foldO nat fd ps remV wholeV ofV crc16V crc15V sumR)
attribute [local go_sem] max2_max min2_min max_of_two min_of_two

/-- 'Whole', its row's length and its answer under names of their own. -/
theorem whole_len (W L R : Int) (A : Option Addr) (bl o c n : Nat) (l : List Int) (w : World) (h0 : 0 ≤ L) (h1 : L ≤ 4294967295) (hl : Row8 w A bl o l) (hb : Hid (∀ x ∈ l, 0 ≤ x ∧ x ≤ 255)) (hn : Hid (l.length = n)) (hR : Hid (wholeV W L l = R)) :
    Calls Try.prog 14 #[.agg #[.int .i64 W, .int .u32 L], .slice A n c] w fun e w' => e = .returned (.int .u32 R) ∧ Below w.heap.size w w' := by
  obtain rfl := hn.out
  obtain rfl := hR.out
  exact whole_any W L A bl o c l w h0 h1 hl hb.out

theorem sumR_bytes : ∀ (l m : List Int), ∀ x ∈ sumR l m, 0 ≤ x ∧ x ≤ 255
  | a :: l, b :: m, x, hx => by
    simp only [sumR, List.mem_cons] at hx
    rcases hx with rfl | hx
    · omega
    · exact sumR_bytes l m x hx
  | [], _, x, hx => by simp [sumR] at hx
  | _ :: _, [], x, hx => by simp [sumR] at hx

theorem getD_take {l : List Int} {k i : Nat} (h : i < k) : (l.take k).getD i 0 = l.getD i 0 := by
  rw [List.getD_eq_getElem?_getD, List.getD_eq_getElem?_getD, List.getElem?_take, if_pos h]

set_option maxRecDepth 100000 in
set_option maxHeartbeats 8000000 in
theorem adds_any (W L s t : Int) (A : Option Addr) (bl o c : Nat) (l : List Int) (B : Option Addr) (bm om cm : Nat) (m : List Int) (w : World) (h0 : 0 ≤ L) (h1 : L ≤ 4294967295) (hs0 : 0 ≤ s) (hs1 : s ≤ 4294967295) (ht0 : 0 ≤ t) (ht1 : t ≤ 4294967295)
    (hl : Row8 w A bl o l) (hb : ∀ x ∈ l, 0 ≤ x ∧ x ≤ 255) (hm : Row8 w B bm om m) (hbm : ∀ x ∈ m, 0 ≤ x ∧ x ≤ 255) (hc : l.length ≤ c) (hcm : m.length ≤ cm) (hsz : l.length ≤ 140737488355328) :
    Calls Try.prog 5 #[.int .i64 W, .int .u32 L, .int .u32 s, .int .u32 t, .slice A l.length c, .slice B m.length cm] w fun e w' => e = .returned (.bool true) ∧ Below w.heap.size w w' := by
  have hll := hl.1
  have hml := hm.1
  obtain ⟨n, hn⟩ : ∃ n : Nat, min (l.length : Int) (m.length : Int) = n := ⟨min l.length m.length, by omega⟩
  have hnl : n ≤ l.length := by omega
  have hnm : n ≤ m.length := by omega
  have hlt : (l.take n).length = (m.take n).length := by rw [List.length_take, List.length_take]; omega
  -- what the two sides come to
  have hw := Pure.wholeV_sum W L (l.take n) (m.take n) hlt (bytes_take hb n) (bytes_take hbm n)
  have hr := Pure.remV_sum W L s t (l.take n) (m.take n) hlt (bytes_take hb n) (bytes_take hbm n) hs0 hs1 ht0 ht1
  have hst : 0 ≤ Go.bits .xor .u32 s t ∧ Go.bits .xor .u32 s t ≤ 4294967295 := by
    rw [u32_xor s t hs0 (by omega) ht0 (by omega)]
    have : s.toNat ^^^ t.toNat < 2 ^ 32 := Nat.xor_lt_two_pow (by omega) (by omega)
    omega
  have HS := hid (sumR_bytes (l.take n) (m.take n))
  have HSN : Hid ((sumR (l.take n) (m.take n)).length = n) := hid (by rw [Pure.sumR_len hlt, List.length_take]; omega)
  have HSG : Hid (∀ i, i < n → (sumR (l.take n) (m.take n)).getD i 0 = ((l.getD i 0 + m.getD i 0) % 256) % 2) := hid (fun i hi => by rw [Pure.sumR_get i hlt, getD_take hi, getD_take hi])
  generalize sumR (l.take n) (m.take n) = S at *
  have HBl := hid (bytes_take hb n)
  have HBm := hid (bytes_take hbm n)
  have HNl : Hid ((l.take n).length = n) := hid (by rw [List.length_take]; omega)
  have HNm : Hid ((m.take n).length = n) := hid (by rw [List.length_take]; omega)
  have HLa := hid hl
  have HMa := hid hm
  generalize hst' : Go.bits .xor .u32 s t = st at *
  generalize hw1 : wholeV W L S = r1 at *
  generalize hw2 : wholeV W L (l.take n) = r2 at *
  generalize hw3 : wholeV W L (m.take n) = r3 at *
  generalize hr1 : remV W L st S = q1 at *
  generalize hr2 : remV W L s (l.take n) = q2 at *
  generalize hr3 : remV W L t (m.take n) = q3 at *
  have HW1 := hid hw1
  have HW2 := hid hw2
  have HW3 := hid hw3
  have HQ1 := hid hr1
  have HQ2 := hid hr2
  have HQ3 := hid hr3
  have HWX := hid hw.symm
  have HQX := hid hr.symm
  have HST := hid hst'
  obtain ⟨hst0, hst1⟩ := hst
  have i8 := infoU8
  obtain ⟨i0, hi, hz0, hz1, hz2⟩ := info_parts infoU8
  have hcut1 := hid (cut_to (P := Try.prog) 23 5 .i64 Try.underlying23 hi A l.length c n (by omega) (by omega) hc)
  have hcut2 := hid (cut_to (P := Try.prog) 23 5 .i64 Try.underlying23 hi B m.length cm n (by omega) (by omega) hcm)
  clear hl hb hm hbm hlt hw hr hw1 hw2 hw3 hr1 hr2 hr3 hst' i8 hi hz0 hz1 hz2
  have hB0 : w.heap.size ≤ w.heap.size + 1 := by omega
  go_enter Try.func5, Try.ntmps5
  go_wp2_with (first | (at_make; refine mk8_full rfl _ _ rfl w.heap.size n rfl rfl (by rfl) (by rfl) (by omega) (by simp) ?_; intro v0 w1 o0 k0 e0; subst e0; have O0 := hid o0; have bk := (Blk.new w #[.int .i64 W, .int .u32 L] PT).below k0 (by simp); have BK := hid bk; have K0 := hid (((Below.refl w.heap.size w).alloc (Nat.le_refl _) (.cells #[.int .i64 W, .int .u32 L] PT)).trans (k0.mono (by simp))); clear o0 k0 bk))
  have O1 : Hid (Own8 w1 w.heap.size (.slice (some ⟨w.heap.size + 1, 0, none⟩) n n) (List.replicate n 0)) := by
    have h := O0.out
    rw [World.size_alloc] at h
    exact h
  clear O0
  go_loopg [16] n (fun k v16 wr => ∃ (i : Nat) (X : List Int), i + k = n ∧ v16 = .int .i64 i ∧ Hid (X.length = n ∧ ∀ j, X.getD j 0 = if j < i then S.getD j 0 else 0) ∧ Hid (Own8 wr w.heap.size (.slice (some ⟨w.heap.size + 1, 0, none⟩) n n) X) ∧ Hid (Blk wr w.heap.size #[.int .i64 W, .int .u32 L] PT) ∧ Hid (Below w.heap.size w wr))
  case atStart => exact ⟨0, List.replicate n 0, by omega, rfl, hid ⟨by simp, fun j => by simp [List.getD_eq_getElem?_getD, List.getElem?_replicate]; split <;> simp⟩, O1, BK, K0⟩
  case round =>
    clear O1 BK K0
    obtain ⟨i, X, hik, rfl, HX, HO, BK, HB⟩ := hrel
    by_cases hlt : i < n
    · obtain ⟨rfl, hbl⟩ := HLa.out.2.1 (by omega)
      obtain ⟨rfl, hbm'⟩ := HMa.out.2.1 (by omega)
      have hca : wr.cell? ⟨bl, o + i, none⟩ = some (.int .u8 (l.getD i 0)) := (HB.out.cell (p := ⟨bl, o + i, none⟩) hbl).trans (HLa.out.2.2 i (by omega))
      have hcb : wr.cell? ⟨bm, om + i, none⟩ = some (.int .u8 (m.getD i 0)) := (HB.out.cell (p := ⟨bm, om + i, none⟩) hbm').trans (HMa.out.2.2 i (by omega))
      obtain ⟨g, c', e', hg1, hg2, hg3, hat⟩ := HO.out.at_ (by have := HX.out.1; omega)
      obtain ⟨rfl, _⟩ : w.heap.size + 1 = g ∧ True := by
        simp only [Value.slice.injEq, Option.some.injEq, Addr.mk.injEq] at e'
        exact ⟨e'.1.1, trivial⟩
      obtain ⟨cz, fz, sz⟩ := hat i (by have := HX.out.1; omega)
      have hsi := HSG.out i hlt
      have SZ := hid (sz (S.getD i 0))
      have HX' : Hid ((X.set i (S.getD i 0)).length = n ∧ ∀ j, (X.set i (S.getD i 0)).getD j 0 = if j < i + 1 then S.getD j 0 else 0) := by
        refine hid ⟨by rw [List.length_set]; exact HX.out.1, fun j => ?_⟩
        have h := HX.out.2 j
        have hl := HX.out.1
        rw [List.getD_eq_getElem?_getD] at h
        rw [List.getD_eq_getElem?_getD (l := X.set i _), List.getElem?_set]
        by_cases hj : i = j
        · subst hj
          rw [if_pos rfl, if_pos (by omega), if_pos (by omega)]
          rfl
        · rw [if_neg hj, h]
          by_cases h1 : j < i
          · rw [if_pos h1, if_pos (by omega)]
          · rw [if_neg h1, if_neg (by omega)]
      have hba : 0 ≤ l.getD i 0 ∧ l.getD i 0 ≤ 255 := by
        have h := HBl.out (l.getD i 0) (by rw [← getD_take hlt, getD_at (by have := HNl.out; omega)]; exact List.getElem_mem _)
        exact h
      have hbb : 0 ≤ m.getD i 0 ∧ m.getD i 0 ≤ 255 := by
        have h := HBm.out (m.getD i 0) (by rw [← getD_take hlt, getD_at (by have := HNm.out; omega)]; exact List.getElem_mem _)
        exact h
      generalize X.set i (S.getD i 0) = X' at *
      generalize S.getD i 0 = sv at *
      generalize l.getD i 0 = av at *
      generalize m.getD i 0 = bv at *
      generalize X.getD i 0 = xv at *
      have HSV := hid hsi
      clear hsi sz hat e' hg3
      obtain ⟨ha0, ha1⟩ := hba
      obtain ⟨hb0, hb1⟩ := hbb
      have k0 : (0 : Int) ≤ (i : Int) := by omega
      have k1 : (i : Int) < (n : Int) := by omega
      have k2 : (i : Int) < (l.length : Int) := by omega
      have k3 : (i : Int) < (m.length : Int) := by omega
      go_wp2_with fail
      go_region
      all_goals
        go_wp2_with fail
        go_roundg (gk - 1)
        case rel =>
          have he : (av + bv) % 2 = sv := by have := HSV.out; omega
          rw [he]
          exact ⟨i + 1, X', by omega, by go_num, HX', hid SZ.out.drew, hid (BK.out.other ⟨w.heap.size + 1, i, none⟩ _ (by simp)).drew, hid (HB.out.setCell hg1 _).drew⟩
        case measure => omega
    · have hXS : X = S := Pure.ext_getD (by rw [HX.out.1, HSN.out]) (fun j hj => by rw [HX.out.2 j, if_pos (by have := HX.out.1; omega)])
      subst hXS
      obtain ⟨As, bs, os, cs, es, _, hrs, _⟩ := HO.out.row
      obtain ⟨e1, e2⟩ : (some ⟨w.heap.size + 1, 0, none⟩ : Option Addr) = As ∧ n = cs := by
        simp only [Value.slice.injEq] at es
        exact ⟨es.1, es.2.2⟩
      have HRS : Hid (Row8 wr (some ⟨w.heap.size + 1, 0, none⟩) bs os X) := by rw [e1]; exact hrs
      have HRL := hid ((HLa.out.take n).belowB HB.out (fun hn => ((HLa.out.take n).2.1 hn).2))
      have HRM := hid ((HMa.out.take n).belowB HB.out (fun hn => ((HMa.out.take n).2.1 hn).2))
      have c0 := BK.out.cell 0 (.int .i64 W) rfl
      have c1 := BK.out.cell 1 (.int .u32 L) rfl
      have hltw := BK.out.lt
      have KS := hid (fun w' => keepP (N := wr.heap.size) (w' := w') hltw c0 c1)
      have R0 := hid (Below.refl wr.heap.size wr)
      have q1' := HWX.out
      have q2' := hcut1.out
      have q3' := hcut2.out
      rw [Int.toNat_natCast] at q2' q3'
      clear HX HO es hrs e1 e2 hik HSG HLa HMa
      have hlt' : decide ((i : Int) < (n : Int)) = false := by simp; omega
      go_wp2_with fail
      go_region_held3 (fun w' => Hid (Below wr.heap.size wr w') ∧ w'.cell? ⟨w.heap.size, 0, none⟩ = some (.int .i64 W) ∧ w'.cell? ⟨w.heap.size, 1, none⟩ = some (.int .u32 L)) (first | exact KS.out _ (by assumption) | exact KS.out _ (ext_drew (by assumption)))
        (first | (go_at_call 14; (with_reducible refine (whole_len W L r1 _ bs os _ n X _ h0 h1 (row_ext HRS (by assumption)) HS HSN HW1).mono ?_); rintro e w2 ⟨rfl, k2⟩; have hq := ext_next (by assumption) (Nat.le_refl _) k2; clear k2) | (go_at_call 14; (with_reducible refine (whole_len W L r2 A bl o _ n (l.take n) _ h0 h1 (row_ext HRL (by assumption)) HBl HNl HW2).mono ?_); rintro e w2 ⟨rfl, k2⟩; have hq := ext_next (by assumption) (Nat.le_refl _) k2; clear k2) | (go_at_call 14; (with_reducible refine (whole_len W L r3 B bm om _ n (m.take n) _ h0 h1 (row_ext HRM (by assumption)) HBm HNm HW3).mono ?_); rintro e w2 ⟨rfl, k2⟩; have hq := ext_next (by assumption) (Nat.le_refl _) k2; clear k2) | (go_at_call 14; trace_state; fail))
      go_wp2_with fail
      have q4' := HST.out
      have q5' := HQX.out
      go_region_held3 (fun w' => Hid (Below wr.heap.size wr w') ∧ w'.cell? ⟨w.heap.size, 0, none⟩ = some (.int .i64 W) ∧ w'.cell? ⟨w.heap.size, 1, none⟩ = some (.int .u32 L)) (first | exact KS.out _ (by assumption) | exact KS.out _ (ext_drew (by assumption)))
        (first | (go_at_call 8; refine (live_any _).mono ?_; rintro e w3 ⟨rfl, k3⟩; have hq := ext_next (by assumption) (Nat.le_refl _) k3; clear k3) | (go_at_call 9; (with_reducible refine (rem_len W L st q1 _ bs os _ n X _ h0 h1 hst0 hst1 (row_ext HRS (by assumption)) HS HSN HQ1).mono ?_); rintro e w2 ⟨rfl, k2⟩; have hq := ext_next (by assumption) (Nat.le_refl _) k2; clear k2) | (go_at_call 9; (with_reducible refine (rem_len W L s q2 A bl o _ n (l.take n) _ h0 h1 hs0 hs1 (row_ext HRL (by assumption)) HBl HNl HQ2).mono ?_); rintro e w2 ⟨rfl, k2⟩; have hq := ext_next (by assumption) (Nat.le_refl _) k2; clear k2) | (go_at_call 9; (with_reducible refine (rem_len W L t q3 B bm om _ n (m.take n) _ h0 h1 ht0 ht1 (row_ext HRM (by assumption)) HBm HNm HQ3).mono ?_); rintro e w2 ⟨rfl, k2⟩; have hq := ext_next (by assumption) (Nat.le_refl _) k2; clear k2) | (go_at_call 9; trace_state; fail))
      all_goals
        go_wp2_with fail
        go_ret
        exact ⟨rfl, ext_end HB HB.out.size (by assumption)⟩

theorem adds_entry (v0 v1 v2 v3 v4 v5 : Value) (W : World) {base : Nat} (h0 : Rd Try.prog W 3 v0.cells.toList) (o0 : Value.okWide Try.prog W .any base 3 v0)
    (h1 : Rd Try.prog W 22 v1.cells.toList) (o1 : Value.okWide Try.prog W .any base 22 v1)
    (h2 : Rd Try.prog W 22 v2.cells.toList) (o2 : Value.okWide Try.prog W .any base 22 v2)
    (h3 : Rd Try.prog W 22 v3.cells.toList) (o3 : Value.okWide Try.prog W .any base 22 v3)
    (h4 : Rd Try.prog W 23 v4.cells.toList) (o4 : Value.okWide Try.prog W .any base 23 v4)
    (h5 : Rd Try.prog W 23 v5.cells.toList) (o5 : Value.okWide Try.prog W .any base 23 v5) :
    Calls Try.prog 5 #[v0, v1, v2, v3, v4, v5] W fun e w' => e = .returned (.bool true) ∧ Below W.heap.size W w' := by
  obtain ⟨wd, rfl, _⟩ := opn_int Try.underlying3 h0 o0
  obtain ⟨lw, rfl, wl⟩ := opn_int Try.underlying22 h1 o1
  obtain ⟨s, rfl, ws⟩ := opn_int Try.underlying22 h2 o2
  obtain ⟨t, rfl, wt⟩ := opn_int Try.underlying22 h3 o3
  obtain ⟨A, bl, o, l, c, rfl, hlc, hcm, hre, _, hrow, hb⟩ := opn_bytes Try.underlying23 Try.underlying5 (by kernel_rfl) (by kernel_rfl) h4 o4
  obtain ⟨B, bm, om, m, cm, rfl, hlm, hcm', _, _, hrow', hb'⟩ := opn_bytes Try.underlying23 Try.underlying5 (by kernel_rfl) (by kernel_rfl) h5 o5
  have hl := wf_u32 wl
  have hs := wf_u32 ws
  have ht := wf_u32 wt
  exact adds_any wd lw s t A bl o c l B bm om cm m W hl.1 hl.2 hs.1 hs.2 ht.1 ht.2 hrow hb hrow' hb' hlc hlm (Nat.le_trans hre (by decide))

end Go.Proofs.Ytjlhbgkmebinjaa
