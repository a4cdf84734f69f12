/- The law PairOnly. -/
import Derived.Test.YtfjmflkfnccohaaPLive
import Derived.Test.YtfjmflkfnccohaaPCame
set_option linter.unusedSimpArgs false
set_option linter.unusedVariables false
set_option linter.unnecessarySimpa false
namespace Go.Proofs.Ytfjmflkfnccohaa
open Go.RowKit Go.Proofs.YtfjmflkfnccohaaW.PrintWords
attribute [local go_sem] max2_max min2_min max_of_two min_of_two bxF_fr stF_fr stF_fr2 stF_put ldF_put ldV_put ldF_new guard_eq guard_ne bin_eq bin_ne alF_fr bdF_none bdF_ask bdF_len bdF_dat ext_drew' ext_alloc
attribute [local go_sem ↓] ldF_in ldV_in bxF_in stF_in cvS_in alF_in bdF_in ixS_in
attribute [local go_sem] gUpon cvB_run
attribute [local go_sem ↓] cvB_in

theorem Bs.cut {w : World} {A : Option Addr} {n c : Nat} {l : List Int} (h : Bs w (.slice A n c) l) (k : Nat) (hk : k ≤ l.length) : Bs w (.slice A k c) (l.take k) := by
  obtain ⟨A', bl, o, c', he, hc, hr, hb⟩ := h
  injection he with h1 h2 h3
  subst h1 h2 h3
  have hl : (l.take k).length = k := by rw [List.length_take]; omega
  refine ⟨A, bl, o, c, by rw [hl], by omega, ⟨by have := hr.1; omega, fun h0 => hr.2.1 (by omega), fun i hi => ?_⟩, hb.take k⟩
  rw [hl] at hi
  rw [hr.2.2 i (by omega)]
  congr 2
  rw [List.getD_eq_getElem?_getD, List.getD_eq_getElem?_getD, List.getElem?_take, if_pos hi]
def OInv (s : Ck) (last : List Int) (pl : Bool) : Prop := s.size = 2 ∧ Byt last ∧ last.length ≤ 12 ∧ (s.half = true → pl = true ∧ s.b = last ∧ last.length = 2) ∧ s.b.length ≤ 12
theorem turned_b (s : Ck) (l : List Int) : (s.turned l).1.b = [] := by unfold Ck.turned Ck.clear; (repeat' split) <;> rfl
theorem turned_size (s : Ck) (l : List Int) : (s.turned l).1.size = s.size := by unfold Ck.turned Ck.clear; (repeat' split) <;> rfl
theorem turned_half (s : Ck) (l : List Int) : (s.turned l).1.half = false := by unfold Ck.turned Ck.clear; (repeat' split) <;> rfl
theorem OInv.turned {s : Ck} {last bs : List Int} {pl : Bool} (h : OInv s last pl) (hb : Byt bs) (hn : bs.length ≤ 12) : OInv (s.turned bs).1 bs false :=
  ⟨(turned_size s bs).trans h.1, hb, hn, fun e => (by rw [turned_half] at e; cases e), (by rw [turned_b]; simp)⟩
theorem OInv.good {s : Ck} {last bs : List Int} {pl : Bool} (h : OInv s last pl) (hg : (s.turned bs).2 = 2) : pl = true ∧ last.length = 2 ∧ flipL last = bs ∧ (s.turned bs).1.value = last := by
  obtain ⟨_, _, _, hh, _⟩ := h
  unfold Ck.turned at hg ⊢
  split at hg
  · simp at hg
  · split at hg
    · simp at hg
    · split at hg
      · simp at hg
      · rename_i h1 h2 h3
        obtain ⟨a, b, c⟩ := hh (by simpa using h2)
        refine ⟨a, c, ?_, ?_⟩
        · rw [← b]; simpa using h3
        · rw [if_neg h1, if_neg h2, if_neg h3]; exact b
theorem OInv.plain {s : Ck} {last bs : List Int} {pl : Bool} (h : OInv s last pl) (hb : Byt bs) (hn : bs.length ≤ 12) : OInv (s.plain bs).1 bs true ∧ (s.plain bs).2 ≠ 2 := by
  obtain ⟨hs, _⟩ := h
  unfold Ck.plain
  split
  · exact ⟨⟨hs, hb, hn, fun e => (by simp [Ck.clear] at e), (by simp [Ck.clear])⟩, by simp⟩
  · split
    · exact ⟨⟨hs, hb, hn, fun e => (by simp [Ck.clear] at e), (by simp [Ck.clear])⟩, by simp⟩
    · rename_i h1 _
      exact ⟨⟨hs, hb, hn, fun _ => ⟨rfl, rfl, by rw [hs] at h1; omega⟩, hn⟩, by simp⟩

set_option maxRecDepth 100000 in
set_option maxHeartbeats 4000000 in
theorem only_c (A : Option Addr) (bl o c : Nat) (l : List Cm) (w : World) (hl : RowOf Cm.cells 4 w A bl o l) (hc : l.length ≤ c) (hP : ∀ x ∈ l, Bs w x.v x.b ∧ x.b.length ≤ reachBytes) :
    Calls Try.prog 3 #[.slice A l.length c] w fun e w' => e = .returned (.bool true) ∧ Ext w w' := by
  have hl0 := hl.1
  have HP := hid hP
  clear hP
  go_enter Try.func3, Try.ntmps3
  go_wp2_with fail
  (with_reducible refine (knew_c 2 _).mono ?_); rintro e w1 hk
  rw [if_neg (by omega)] at hk
  obtain ⟨cc, rfl, hcc, hgc, k1⟩ := hk
  have hst : OInv ⟨2, false, [], []⟩ [] false := ⟨rfl, Byt.nil, by decide, by simp, by decide⟩
  go_wp2_with fail
  go_loopg [5, 6, 7] 40 (fun g u5 u6 u7 wr => ∃ (i : Nat) (s : Ck) (last : List Int) (pl : Bool), i + g = 40 ∧ i ≤ l.length ∧ u7 = .int .i64 i ∧ u5 = .string (mkS last) ∧ u6 = .bool pl ∧ CkAt wr cc s ∧ Hid (OInv s last pl) ∧ Ext w wr)
  case atStart => exact ⟨0, _, [], false, rfl, by omega, rfl, rfl, rfl, hcc, hid hst, k1⟩
  case round =>
    clear hst hcc k1
    obtain ⟨i, s, last, pl, hig, hil, rfl, rfl, rfl, hck, hinv, K⟩ := hrel
    by_cases hlt : i < l.length ∧ i < 40
    · obtain ⟨hlt, h40⟩ := hlt
      have e1 : decide ((i : Int) < (l.length : Int)) = true := by simpa using hlt
      have e2 : decide ((i : Int) < 40) = true := by simp; omega
      have i0 : (0 : Int) ≤ (i : Int) := by omega
      have i1 : (i : Int) < (l.length : Int) := by omega
      obtain ⟨rfl, hcell⟩ := hl.at K hlt
      have hPi := HP.out l[i] (List.getElem_mem _)
      have K0 := hid (hl.at (Ext.refl w) hlt).2
      generalize l[i] = cm at *
      obtain ⟨tn, cl, fk, v, b⟩ := cm
      obtain ⟨hb, hbl⟩ := hPi
      simp only at hb hbl
      have c0 : wr.cell? ⟨bl, o + i * 4, none⟩ = some (.bool tn) := hcell 0 (.bool tn) rfl
      have c3 := hcell 3 v rfl
      clear hcell
      obtain ⟨B, bb, bo, bc, rfl, hbc, _⟩ := id hb
      obtain ⟨nb, hnb⟩ : ∃ nb, min b.length 12 = nb := ⟨_, rfl⟩
      have hmn : min (b.length : Int) 12 = (nb : Int) := by omega
      have hbt := (hb.ext K).cut nb (by omega)
      have hln : (b.take nb).length = nb := by rw [List.length_take]; omega
      have n0 : (0 : Int) ≤ (nb : Int) := by omega
      have n1 : (nb : Int) ≤ (bc : Int) := by omega
      have hsd := (hbt.ext ((Ext.refl wr).drew)).str
      have D : ∀ a : Addr, wr.drew.cell? a = wr.cell? a := fun a => rfl
      have hbyt := hbt.byt
      have h12 : (b.take nb).length ≤ 12 := by omega
      generalize b.take nb = bs at *
      have HC0 := hid (fun (w' : World) (q : Ext w w') => (show w'.cell? ⟨bl, o + i * 4, none⟩ = some (.bool tn) from (q.cell (K0.out 0 (.bool tn) rfl))))
      have hck1 := CkAt.ext hck (((Ext.refl wr).drew).trans (sbW_ext wr.drew bs))
      have hbb := sbW_bs wr.drew bs hbyt (by omega)
      have KB : Ext w (sbW wr.drew bs) := (Ext.trans K ((Ext.refl wr).drew)).trans (sbW_ext wr.drew bs)
      have H1 := hid (And.intro hck1 (And.intro hbb KB))
      have HB := hid (And.intro hbyt h12)
      have hlb := hinv.out.2.1
      have hl12 := hinv.out.2.2.1
      have HL := hid (And.intro hlb hl12)
      have HSBB := hid hinv.out.2.2.2.2
      clear hnb hb hck1 hbb KB hck hbt hbyt h12 hlb hl12 K0 hln
      cases tn
      · go_wp2_with fail
        go_region
        go_wp2_with fail
        (with_reducible refine (plain_c cc s _ bs _ H1.out.1 H1.out.2.1 (by have := HB.out.2; omega)).mono ?_); rintro e w3 ⟨rfl, hc3, k3⟩
        have K3 : Ext w w3 := Ext.only H1.out.2.2 k3 hgc
        obtain ⟨hv, hne⟩ := hinv.out.plain HB.out.1 HB.out.2
        have HI := hid hv
        obtain ⟨⟨s', t⟩, hst⟩ : ∃ q, Is (s.plain bs) q := ⟨_, Is.refl _⟩
        rw [hst.eq] at hc3 HI hne ⊢
        simp only at hc3 HI hne ⊢
        have e5 : (t == 2) = false := by simpa using hne
        have c0' := HC0.out w3 K3
        have D3 : ∀ a : Addr, w3.drew.cell? a = w3.cell? a := fun a => rfl
        clear c0 c3 D hsd k3 H1 hne hv K
        go_wp2_with fail
        go_region
        go_wp2_with fail
        go_roundg (gk - 1)
        case rel => exact ⟨i + 1, s', bs, true, by omega, by omega, by go_num, rfl, rfl, hc3.ext ((Ext.refl w3).drew), HI, K3.drew⟩
        case measure => omega
      · go_wp2_with fail
        go_region
        go_wp2_with fail
        (with_reducible refine (turned_c cc s _ bs _ H1.out.1 H1.out.2.1 (by have := HSBB.out; omega)).mono ?_); rintro e w3 ⟨rfl, hc3, k3⟩
        have K3 : Ext w w3 := Ext.only H1.out.2.2 k3 hgc
        have HI := hid (hinv.out.turned HB.out.1 HB.out.2)
        have HG := hid (fun h => hinv.out.good (bs := bs) h)
        obtain ⟨⟨s', t⟩, hst⟩ : ∃ q, Is (s.turned bs) q := ⟨_, Is.refl _⟩
        rw [hst.eq] at hc3 HI HG ⊢
        simp only at hc3 HI HG ⊢
        have hsz : (mkS last).size = last.length := mkS_size last
        clear c0 c3 D hsd k3 H1 K
        by_cases ht : t = 2
        · subst ht
          obtain ⟨rfl, h2, hf, hv⟩ := HG.out rfl
          clear HG
          have e3 : ((last.length : Int) == 2) = true := by rw [h2]; rfl
          have e4 := str_dec (flipL_byt HL.out.1) HB.out.1
          rw [decide_eq_true hf] at e4
          have e5 : ((mkS last).toList == (mkS last).toList) = true := by simp
          have c0' := HC0.out w3 K3
          have HF := hid (rflip2_c _ _ _ (sbW_bs w3 last HL.out.1 (by omega)) (by omega))
          have HSB := hid (sbW_ext w3 last)
          have HHf := hid (And.intro hf hv)
          clear hf hv h2
          go_wp2_with fail
          (with_reducible refine (HF.out).mono ?_); rintro e w4 ⟨v4, rfl, o4, k4⟩
          have hs4 := (Bs.own o4 (flipL_byt HL.out.1)).str
          have k34 : Ext w3 w4 := HSB.out.trans k4
          have hc4 := hc3.ext k34
          have K4 : Ext w w4 := K3.trans k34
          clear o4 k4 hc3 k34 c0' HF HSB
          go_wp2_with fail
          (with_reducible refine (value_k cc s' _ hc4 (by rw [HHf.out.2]; have := HL.out.2; omega)).mono ?_); rintro e w5 ⟨v5, rfl, o5, k5⟩
          rw [HHf.out.2] at o5
          have hs5 := (Bs.own o5 HL.out.1).str
          have K5 : Ext w w5 := K4.trans k5
          have hc5 := hc4.ext k5
          have c0' := HC0.out w5 K5
          have D3 : ∀ a : Addr, w5.drew.cell? a = w5.cell? a := fun a => rfl
          clear o5 k5 hc4 K4
          go_wp2_with fail
          go_region
          go_wp2_with fail
          go_roundg (gk - 1)
          case rel => exact ⟨i + 1, s', bs, false, by omega, by omega, by go_num, rfl, rfl, hc5.ext ((Ext.refl w5).drew), HI, K5.drew⟩
          case measure => omega
        · have e5 : (t == 2) = false := by simpa using ht
          clear HG ht
          have hpc : pl = false ∨ (pl = true ∧ ((last.length : Int) == 2) = false) ∨ (pl = true ∧ ((last.length : Int) == 2) = true) := by
            cases pl
            · exact .inl rfl
            · cases hq : ((last.length : Int) == 2)
              · exact .inr (.inl ⟨rfl, rfl⟩)
              · exact .inr (.inr ⟨rfl, rfl⟩)
          have c0' := HC0.out w3 K3
          have D3 : ∀ a : Addr, w3.drew.cell? a = w3.cell? a := fun a => rfl
          rcases hpc with rfl | ⟨rfl, e3⟩ | ⟨rfl, e3⟩
          · go_wp2_with fail
            go_region
            go_wp2_with fail
            go_roundg (gk - 1)
            case rel => exact ⟨i + 1, s', bs, false, by omega, by omega, by go_num, rfl, rfl, hc3.ext ((Ext.refl w3).drew), HI, K3.drew⟩
            case measure => omega
          · go_wp2_with fail
            go_region
            go_wp2_with fail
            go_roundg (gk - 1)
            case rel => exact ⟨i + 1, s', bs, false, by omega, by omega, by go_num, rfl, rfl, hc3.ext ((Ext.refl w3).drew), HI, K3.drew⟩
            case measure => omega
          · have HF := hid (rflip2_c _ _ _ (sbW_bs w3 last HL.out.1 (by have := HL.out.2; omega)) (by have := HL.out.2; omega))
            have HSB := hid (sbW_ext w3 last)
            go_wp2_with fail
            (with_reducible refine (HF.out).mono ?_); rintro e w4 ⟨v4, rfl, o4, k4⟩
            have hs4 := (Bs.own o4 (flipL_byt HL.out.1)).str
            have k34 : Ext w3 w4 := HSB.out.trans k4
            have hc4 := hc3.ext k34
            have K4 : Ext w w4 := K3.trans k34
            have c0'' := HC0.out w4 K4
            have D4 : ∀ a : Addr, w4.drew.cell? a = w4.cell? a := fun a => rfl
            clear o4 k4 hc3 k34 c0' HF HSB D3
            go_wp2_with fail
            go_region
            go_wp2_with fail
            go_roundg (gk - 1)
            case rel => exact ⟨i + 1, s', bs, false, by omega, by omega, by go_num, rfl, rfl, hc4.ext ((Ext.refl w4).drew), HI, K4.drew⟩
            case measure => omega
    · by_cases hi : i = l.length
      · subst hi
        clear hlt
        go_wp2_with fail
        (with_reducible refine (live_c _).mono ?_); rintro e w2 ⟨rfl, k2⟩
        go_wp2_with fail
        go_ret
        exact ⟨rfl, (by repeat (first | with_reducible exact Ext.refl _ | with_reducible assumption | with_reducible apply Ext.alloc | with_reducible apply Ext.drew | with_reducible apply Ext.drewN | (with_reducible refine Ext.set' ?_ (by first | omega | (simp only [World.size_alloc, World.size_setCell]; omega))) | (with_reducible refine Ext.trans ?_ (by with_reducible assumption)) | (with_reducible refine Ext.only ?_ (by with_reducible assumption) (by omega))))⟩
      · obtain rfl : i = 40 := by omega
        have d : (40 : Int) < (l.length : Int) := by omega
        have d' : decide ((40 : Int) < (l.length : Int)) = true := by simpa using d
        clear hlt hi
        go_wp2_with fail
        (with_reducible refine (live_c _).mono ?_); rintro e w2 ⟨rfl, k2⟩
        go_wp2_with fail
        go_ret
        exact ⟨rfl, (by repeat (first | with_reducible exact Ext.refl _ | with_reducible assumption | with_reducible apply Ext.alloc | with_reducible apply Ext.drew | with_reducible apply Ext.drewN | (with_reducible refine Ext.set' ?_ (by first | omega | (simp only [World.size_alloc, World.size_setCell]; omega))) | (with_reducible refine Ext.trans ?_ (by with_reducible assumption)) | (with_reducible refine Ext.only ?_ (by with_reducible assumption) (by omega))))⟩

theorem only_entry (v0 : Value) (W : World) {base : Nat} (h0 : Rd Try.prog W 22 v0.cells.toList) (o0 : Value.okWide Try.prog W .any base 22 v0) :
    Calls Try.prog 3 #[v0] W fun e w' => e = .returned (.bool true) ∧ Below W.heap.size W w' := by
  obtain ⟨A, bl, o, l, c, rfl, hlc, _, _, _, hrow, hP⟩ := opn_rows Cm.cells (fun x => Bs W x.v x.b ∧ x.b.length ≤ reachBytes) 4 (by decide) Try.underlying22 (by kernel_rfl) dec_came h0 o0
  exact only_c A bl o c l W hrow hlc hP

end Go.Proofs.Ytfjmflkfnccohaa
