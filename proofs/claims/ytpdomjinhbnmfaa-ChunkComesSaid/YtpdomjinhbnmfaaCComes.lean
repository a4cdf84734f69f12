/- The law ChunkComes. -/
import Derived.Test.YtpdomjinhbnmfaaComesL
import Derived.Test.YtpdomjinhbnmfaaLv
import Derived.Deep.Cut
import Derived.Deep.CutRange
import Derived.Deep.DeepCutAuto
set_option linter.unusedSimpArgs false
set_option linter.unusedVariables false
set_option linter.unnecessarySimpa false
set_option maxRecDepth 100000
namespace Go.Proofs.Ytpdomjinhbnmfaa
open Go.RowKit Go.Proofs.YtpdomjinhbnmfaaW.PrintWords
open Go.Proofs.Ytpdomjinhbnmfaa.Pure (crc16V)
attribute [local go_sem] max2_max min2_min max_of_two min_of_two alL_v bdL_none bdL_one bxL_ln lnguard_eq lnguard_ne lnbin_eq lnbin_ne
attribute [local go_sem ↓] ldL_in bxL_in stL_in alL_in bdL_in cvS_in
attribute [local go_sem] gUpon gStill

/-- Below a place but for one block all is as it was. -/
structure OB (B sb : Nat) (a w : World) : Prop where
  size : a.heap.size ≤ w.heap.size
  block : ∀ k, k < B → k ≠ sb → w.heap[k]? = a.heap[k]?
theorem OB.refl (B sb : Nat) (a : World) : OB B sb a a := ⟨Nat.le_refl _, fun _ _ _ => rfl⟩
theorem OB.below {B sb : Nat} {a w w' : World} (h : OB B sb a w) (k : Below B w w') : OB B sb a w' := ⟨Nat.le_trans h.size k.size, fun i hi hn => (k.block i hi).trans (h.block i hi hn)⟩
theorem OB.ext {B sb : Nat} {a w w' : World} (h : OB B sb a w) (k : Ext w w') (hB : B ≤ a.heap.size) : OB B sb a w' := ⟨Nat.le_trans h.size k.size, fun i hi hn => (k.block i (Nat.lt_of_lt_of_le hi (Nat.le_trans hB h.size))).trans (h.block i hi hn)⟩
theorem OB.only {B sb : Nat} {a w w' : World} (h : OB B sb a w) (k : Only sb w w') (hB : B ≤ a.heap.size) : OB B sb a w' := ⟨Nat.le_trans h.size k.size, fun i hi hn => (k.block i (Nat.lt_of_lt_of_le hi (Nat.le_trans hB h.size)) hn).trans (h.block i hi hn)⟩
theorem OB.bs {B sb : Nat} {a w : World} {v : Value} {l : List Int} {cs : Array Value} {t : TypeId} (h : OB B sb a w) (hB : a.heap.size = B) (hv : Bs a v l) (hb : Blk a sb cs t) (hn : No8 cs) : Bs w v l := by
  obtain ⟨A, bl, o, c, rfl, hlc, hr, hy⟩ := hv
  have hne : 0 < l.length → bl ≠ sb := fun hl e => by
    subst e
    have h1 := hr.2.2 0 hl
    unfold Blk at hb
    simp only [World.cell?, hb] at h1
    exact hn _ _ h1
  refine ⟨A, bl, o, c, rfl, hlc, ⟨hr.1, fun hl => ⟨(hr.2.1 hl).1, Nat.lt_of_lt_of_le (hr.2.1 hl).2 h.size⟩, fun i hi => ?_⟩, hy⟩
  have hl : 0 < l.length := by omega
  rw [← hr.2.2 i hi]
  have e := h.block bl (by rw [← hB]; exact (hr.2.1 hl).2) (hne hl)
  simp only [World.cell?, e]
/-- The memory of a sender and a receiver. -/
structure SM (w a : World) (sb g : Nat) (u : Value) (s : Sd) (t : Td) (wx : World) : Prop where
  sq : Blk wx sb (s.cells u) ST
  ob : OB a.heap.size sb a wx
  tk : TdAt wx a.heap.size g t
  ext : Ext w wx
  ba : Bs a u s.b
  bq : ∃ s0 : Sd, s0.b = s.b ∧ Blk a sb (s0.cells u) ST
  len : s.b.length ≤ 64
  sa : sb < a.heap.size
  s0 : w.heap.size ≤ sb
  ga : a.heap.size ≤ g
  wa : w.heap.size ≤ a.heap.size
theorem SM.sd {w a : World} {sb g : Nat} {u : Value} {s : Sd} {t : Td} {wx : World} (h : SM w a sb g u s t wx) : SdAt wx sb u s := by
  obtain ⟨s0, he, hb⟩ := h.bq
  exact ⟨h.sq, h.ob.bs rfl h.ba hb (Sd.no8 (s := s0) (by rw [he]; exact h.ba)), h.len⟩
theorem SM.more {w a : World} {sb g : Nat} {u : Value} {s : Sd} {t : Td} {wx wy : World} (h : SM w a sb g u s t wx) (k : Ext wx wy) : SM w a sb g u s t wy :=
  ⟨k.blk h.sq, h.ob.ext k (Nat.le_refl _), h.tk.ext k, h.ext.trans k, h.ba, h.bq, h.len, h.sa, h.s0, h.ga, h.wa⟩
theorem SM.take {w a : World} {sb g : Nat} {u : Value} {s : Sd} {t t' : Td} {wx wy : World} (h : SM w a sb g u s t wx) (ht : TdAt wy a.heap.size g t') (o : O8 a.heap.size g wx wy) : SM w a sb g u s t' wy :=
  ⟨o.keep _ _ _ h.sq (by decide) (by have := h.sa; have := h.ga; omega), h.ob.below o.below, ht, Below.trans h.ext (o.below.mono h.wa), h.ba, h.bq, h.len, h.sa, h.s0, h.ga, h.wa⟩
theorem SM.send {w a : World} {sb g : Nat} {u : Value} {s s' : Sd} {t : Td} {wx wy : World} (h : SM w a sb g u s t wx) (hs : SdAt wy sb u s') (hb : s'.b = s.b) (o : Only sb wx wy) : SM w a sb g u s' t wy := by
  refine ⟨hs.1, h.ob.only o (Nat.le_refl _), ?_, Ext.only h.ext o h.s0, by rw [hb]; exact h.ba, by rw [hb]; exact h.bq, hs.2.2, h.sa, h.s0, h.ga, h.wa⟩
  obtain ⟨v, hg, ho, hq⟩ := h.tk
  refine ⟨v, hg.kept o (by have := h.sa; have := h.ga; omega), ?_, hq⟩
  have ha := own_apart ho h.sq (by decide)
  obtain ⟨h0, hh⟩ := ho
  refine ⟨h0, ?_⟩
  rcases hh with hh | ⟨i, cap, cur, hv, hgi, hi, q⟩
  · exact .inl hh
  · exact .inr ⟨i, cap, cur, hv, hgi, Blk.kept (b := i) (cs := cur) (t := U8) hi o (fun e => ha (by rw [hv, e]; rfl)), q⟩
theorem own_keep {w w' : World} {B g : Nat} {v : Value} {l : List Ln} {cs : Array Value} {t : TypeId} (h : OwnR lnLay w B v l) (hb : Blk w g cs t) (ht : t ≠ LT) (k : ∀ i cs t, Blk w i cs t → t ≠ U8 → i ≠ g → Blk w' i cs t) : OwnR lnLay w' B v l := by
  have ha := h.apart hb ht
  obtain ⟨h0, h⟩ := h
  refine ⟨h0, ?_⟩
  rcases h with h | ⟨i, cap, cur, hv, hg, hh, r⟩
  · exact .inl h
  · exact .inr ⟨i, cap, cur, hv, hg, k i cur LT hh (by decide) (fun e => ha (by rw [hv, e]; rfl)), r⟩

theorem stL_new' (w : World) (m g : Ln) : (stL (.pointer (some ⟨w.heap.size, 0, none⟩)) m.val).run Try.prog (w.alloc (.cells g.cells LT)) = .ok () (w.alloc (.cells m.cells LT)) := stL_new w m g
attribute [local go_sem] stL_new'
theorem own_ld {w : World} {bl n c : Nat} {l : List Ln} (h : OwnR lnLay w 0 (.slice (some ⟨bl, 0, none⟩) n c) l) (hl : l.length ≤ 1000) {i : Nat} (hi : i < l.length) : (ldL (.pointer (some ⟨bl, i * 8, none⟩))).run Try.prog w = .ok (l[i]).val w := by
  obtain ⟨A', bl', c', he, _, hr⟩ := h.rows (by omega)
  injection he with h1 _ _
  obtain ⟨h2, _⟩ := hr.2.1 (by omega)
  rw [h2] at h1
  injection h1 with h1
  injection h1 with h1
  subst h1
  refine ldL_mid (fun j v hv => ?_)
  have := hr.2.2 i l[i] (List.getElem?_eq_getElem hi) j v (by simpa [Ln.cells, lnLay] using hv)
  rw [Nat.zero_add] at this
  exact this
theorem ln_byt {b : List Int} {k : Int} {q : Bool} {i : Nat} (h : Byt b) (hk : 0 ≤ k ∧ k ≤ 127) : Byt (lnOf (segK k q) (segB b i)).l := by
  intro x hx
  rcases List.mem_cons.1 hx with rfl | hx
  · unfold segK
    split <;> omega
  · exact segP_byt h i x hx
theorem prog_ok {rho at_ d c n : Nat} (h1 : rho ≤ at_) (h2 : 200 ≤ rho → rho ≤ 200 + d) (h3 : 200 ≤ at_ → c = n) (h4 : 1 ≤ n) (h : 200 ≤ rho + 1) : rho + 1 ≤ 200 + (d + c) := by
  by_cases hh : 200 ≤ rho
  · have := h3 (by omega)
    have := h2 hh
    omega
  · omega
theorem segLs_at (b : List Int) (d n i : Nat) (h : i < (segLs b d n).length) : (segLs b d n)[i] = lnOf (segK ((i : Int) + 1) (decide (d + i = nseg b - 1))) (segB b (d + i)) := by simp [segLs]

set_option maxHeartbeats 8000000 in
theorem ccomes_c (ub : Value) (b : List Int) (kb : Int) (A : Option Addr) (bl o c : Nat) (l : List Bool) (w : World) (hub : Bs w ub b) (hk0 : 0 ≤ kb) (hk1 : kb ≤ 255) (hl : RowOf (fun q => [Value.bool q]) 1 w A bl o l) (hlc : l.length ≤ c) :
    Calls Try.prog 5 #[ub, .int .u8 kb, .slice A l.length c] w fun e w' => e = .returned (.bool true) ∧ Ext w w' := by
  obtain ⟨A1, c1, rfl⟩ := hub.form
  have LV := hid (fun w => clive_c w)
  have HUB := hid hub
  by_cases h64 : 64 < b.length
  · have e1 : decide (64 < (b.length : Int)) = true := by simp; omega
    clear h64 hub
    go_enter Try.func5, Try.ntmps5
    go_wp2_with fail
    (with_reducible refine (LV.out _).mono ?_); rintro e w1 ⟨rfl, k1⟩
    go_wp2_with fail
    go_ret
    exact ⟨rfl, k1⟩
  have e1 : decide (64 < (b.length : Int)) = false := by simp; omega
  obtain ⟨r0, hr0⟩ : ∃ r : Nat, (r : Int) = kb % 16 := ⟨(kb % 16).toNat, by omega⟩
  have v1 : Int.tmod kb 16 = (r0 : Int) := by rw [Int.tmod_eq_emod_of_nonneg hk0]; exact hr0.symm
  have v2 : IntKind.u8.wrap (r0 : Int) = (r0 : Int) := by rw [IntKind.wrap_u8']; omega
  have v3 : IntKind.i64.wrap (r0 : Int) = (r0 : Int) := IntWalk.i64_in _ (by omega)
  obtain ⟨z, hz⟩ : ∃ z : Int, Is (1 + (r0 : Int)) z := ⟨_, Is.refl _⟩
  have v4 : IntKind.i64.wrap (1 + (r0 : Int)) = z := (IntWalk.i64_in _ (by omega)).trans hz.eq
  have hz1 : 1 ≤ z ∧ z ≤ 16 := by have := hz.eq; omega
  have hmay : mayN z = true := by unfold mayN; simp; omega
  have NS := hid (newsend_c _ b z w hub hmay (by omega))
  have NT := hid (fun w => newtake_c z w hmay)
  have hN10 : nseg b ≤ 10 := by unfold nseg; omega
  have hl0 := hl.1
  have HMAY := hid hmay
  have HLEN := hid (show b.length ≤ 64 from by omega)
  clear h64 hub hr0 hk0 hk1 hmay
  go_enter Try.func5, Try.ntmps5
  go_wp2_with fail
  (with_reducible refine (NS.out).mono ?_); rintro e w1 ⟨sb, v, rfl, hs, hsb, k1⟩
  have HS := hid hs
  have K1 := hid k1
  clear NS hs k1
  go_wp2_with fail
  (with_reducible refine (NT.out _).mono ?_); rintro e w2 ⟨g, rfl, ht, hg, k2⟩
  rw [tdS_start b z] at ht
  have HM0 := hid ((⟨k2.blk HS.out.1, (OB.refl _ _ _).ext k2 (Nat.le_refl _), ht, K1.out.trans k2, HS.out.2.1, ⟨_, rfl, HS.out.1⟩, HS.out.2.2, HS.out.1.lt, hsb, hg, K1.out.le⟩ : SM w w1 sb g v ⟨z, 0, b, ((0 : Nat) : Int)⟩ (tdS b z 0 0) w2))
  clear ht hg k2 NT HS K1 hsb
  go_wp2_with fail
  go_loopg [11, 12] 220 (fun gg u11 u12 wr => ∃ (at_ rho d : Nat), rho + gg = 220 ∧ u11 = .int .i64 (at_ : Int) ∧ u12 = .int .i64 (rho : Int) ∧ Hid (rho ≤ at_ ∧ at_ ≤ 16 * rho ∧ d ≤ nseg b ∧ (200 ≤ rho → rho ≤ 200 + d)) ∧ Hid (SM w w1 sb g v ⟨z, 0, b, (d : Int)⟩ (tdS b z d 0) wr))
  case atStart => exact ⟨0, 0, 0, rfl, rfl, rfl, hid ⟨by omega, by omega, Nat.zero_le _, by omega⟩, HM0⟩
  case round =>
    clear HM0
    obtain ⟨at_, rho, d, hrg, rfl, rfl, HB, HM⟩ := hrel
    have hrho : rho < 220 := by have := HB.out; omega
    have e2 : decide ((rho : Int) < 220) = true := by simp; omega
    have DN := hid (done_c sb v _ wr HM.out.sd)
    by_cases hd : d = nseg b
    · have hdq : ((d : Int) == (nseg b : Int)) = true := by rw [beq_iff_eq]; omega
      change Hid (Calls Try.prog _ _ wr fun e w' => e = .returned (.bool ((d : Int) == (nseg b : Int))) ∧ Ext wr w') at DN
      rw [hdq] at DN
      subst hd
      obtain ⟨sp, hsp⟩ : ∃ sp : Nat, nseg b * 7 - b.length = sp := ⟨_, rfl⟩
      have hge : b.length ≤ nseg b * 7 := by unfold nseg; omega
      have hspI : (nseg b : Int) * 7 - (b.length : Int) = (sp : Int) := by omega
      have hsp7 : sp ≤ 7 := by have := HLEN.out; unfold nseg at hsp; omega
      have SE := hid (fun w' (k : Ext wr w') => send_c sb v _ w' (HM.out.sd.ext k))
      change Hid (∀ w' (k : Ext wr w'), Calls Try.prog _ _ w' fun e w'' => e = .returned (.tuple #[.int .i64 ((nseg b : Int) * 7 - (b.length : Int)), .int .i64 (crc16V b)]) ∧ Ext w' w'') at SE
      rw [hspI] at SE
      have hlast : (tdS b z (nseg b) 0).last = true := by show decide (nseg b + 0 = nseg b) = true; simp
      have htb : (tdS b z (nseg b) 0).b = padB b (nseg b) := rfl
      have hpl := padB_len b (nseg b)
      have hpt : (padB b (nseg b)).take ((padB b (nseg b)).length - sp) = b := by
        rw [hpl, show 7 * nseg b - sp = b.length by omega]
        exact padB_take b
      have TE := hid (fun w' (k : Ext wr w') => tend_c w1.heap.size g _ sp w' (HM.out.tk.ext k) hlast hsp7 (by rw [htb, hpl]; omega))
      rw [htb, hpt] at TE
      have DN2 := hid (fun w' (k : Ext wr w') => done_c sb v _ w' (HM.out.sd.ext k))
      change Hid (∀ w' (k : Ext wr w'), Calls Try.prog _ _ w' fun e w'' => e = .returned (.bool ((nseg b : Int) == (nseg b : Int))) ∧ Ext w' w'') at DN2
      rw [hdq] at DN2
      have WC := hid (fun w' (k : Ext wr w') => whole_c g true w' (by
        obtain ⟨x, hb, _⟩ := HM.out.tk
        have : w'.cell? ⟨g, 3, none⟩ = some (.bool (tdS b z (nseg b) 0).last) := k.cell (hb.cell 3 _ rfl)
        rw [hlast] at this
        exact this))
      have K := hid HM.out.ext
      have BYT := hid HUB.out.byt
      have CR := hid (fun (w' : World) x (h : Bs w' x b) => crc_c x b w' h)
      obtain ⟨R, hR⟩ : ∃ R, Is (crc16V b) R := ⟨_, Is.refl _⟩
      rw [hR.eq] at SE CR
      have f1 : ((mkS b).toList == (mkS b).toList) = true := by simp
      have f2 : (R == R) = true := by simp
      clear hdq hsp hge hspI hsp7 hlast htb hpl hpt HM HB hR hrg
      go_wp2_with fail
      (with_reducible refine (DN.out).mono ?_); rintro e w3 ⟨rfl, k3⟩
      have K3 := hid k3
      clear k3 DN
      go_wp2_with fail
      (with_reducible refine (SE.out _ K3.out).mono ?_); rintro e w4 ⟨rfl, k4⟩
      have K4 := hid (K3.out.trans k4)
      clear k4 SE K3
      go_wp2_with fail
      (with_reducible refine (TE.out _ K4.out).mono ?_); rintro e w5 ⟨u5, rfl, ho5, k5⟩
      have K5 := hid (K4.out.trans k5)
      have HG5 := hid (Bs.own ho5 BYT.out)
      obtain ⟨A5, c5, hu5⟩ := HG5.out.form
      subst hu5
      clear k5 TE K4 ho5
      go_wp2_with fail
      (with_reducible refine (LV.out _).mono ?_); rintro e w6 ⟨rfl, k6⟩
      have K6 := hid (K5.out.trans k6)
      have HG6 := hid (HG5.out.ext k6)
      clear k6 K5 HG5
      go_wp2_with fail
      (with_reducible refine (DN2.out _ K6.out).mono ?_); rintro e w7 ⟨rfl, k7⟩
      have K7 := hid (K6.out.trans k7)
      have HG7 := hid (HG6.out.ext k7)
      clear k7 K6 HG6
      go_wp2_with fail
      (with_reducible refine (WC.out _ K7.out).mono ?_); rintro e w8 ⟨rfl, rfl⟩
      have s5 := HG7.out.str
      have s0 := (HUB.out.ext (K.out.trans K7.out)).str
      have CR7 := hid (CR.out _ _ HG7.out)
      have KF := hid (K.out.trans K7.out)
      clear K7 WC DN2
      go_wp2_with fail
      (with_reducible refine (CR7.out).mono ?_); rintro e w9 ⟨rfl, k9⟩
      have KZ := hid (KF.out.trans k9)
      clear k9
      go_wp2_with fail
      go_ret
      exact ⟨rfl, KZ.out⟩
    · have hdN : d < nseg b := by have := HB.out; omega
      have hdq : ((d : Int) == (nseg b : Int)) = false := by simp; omega
      change Hid (Calls Try.prog _ _ wr fun e w' => e = .returned (.bool ((d : Int) == (nseg b : Int))) ∧ Ext wr w') at DN
      rw [hdq] at DN
      obtain ⟨n, hn⟩ : ∃ n : Nat, min z ((nseg b : Int) - d) = (n : Int) := ⟨(min z ((nseg b : Int) - d)).toNat, by omega⟩
      have hn1 : 1 ≤ n ∧ n ≤ 16 ∧ d + n ≤ nseg b ∧ (n : Int) ≤ z := by omega
      have BLK := hid (fun w' (k : Ext wr w') => sblock_c sb v ⟨z, 0, b, (d : Int)⟩ d n w' (HM.out.sd.ext k) rfl hdN ⟨hz1.1, by show z ≤ 127; omega⟩ hn)
      have HN := hid (And.intro hn (And.intro hn1 hdN))
      have HMX := hid (fun w' (k : Ext wr w') => HM.out.more k)
      clear hdq hd HM
      go_wp2_with fail
      (with_reducible refine (DN.out).mono ?_); rintro e w3 ⟨rfl, k3⟩
      have HM3 := hid (HMX.out _ k3)
      have BL3 := hid (BLK.out _ k3)
      clear k3 DN BLK HMX
      go_wp2_with fail
      (with_reducible refine (BL3.out).mono ?_); rintro e w4 ⟨v4, rfl, ho4, hs4, o4⟩
      have HM4 := hid (HM3.out.send hs4 rfl o4)
      obtain ⟨A4, bl4, c4, hv4, hc4, hrow4⟩ := ho4.rows (by rw [segLs_len]; have := HN.out; omega)
      subst hv4
      obtain ⟨rfl, _⟩ := hrow4.2.1 (by rw [segLs_len]; have := HN.out; omega)
      have HO4 := hid (ho4.lower (Nat.zero_le _))
      rw [segLs_len] at HO4 hc4 ⊢
      have HC4 := hid hc4
      clear ho4 hs4 o4 hrow4 HM3 BL3 hn hn1 hdN hc4
      go_wp2_with fail
      obtain ⟨gk0, hgk0⟩ : ∃ q, Is gk q := ⟨_, Is.refl _⟩
      have HG := hid (And.intro hrg hgk0.eq)
      clear hrg hgk0
      go_loopg [11, 63] n (fun g2 u11 u63 wr => ∃ (i c : Nat), i + g2 = n ∧ u63 = .int .i64 (i : Int) ∧ u11 = .int .i64 ((at_ + i : Nat) : Int) ∧ Hid (c ≤ i ∧ (200 ≤ at_ → c = i)) ∧ Hid (SM w w1 sb g v ⟨z, n, b, (d : Int)⟩ (tdS b z d c) wr) ∧ Hid (OwnR lnLay wr 0 (.slice (some ⟨bl4, 0, none⟩) n c4) (segLs b d n)))
      case atStart => exact ⟨0, 0, by omega, rfl, rfl, hid ⟨Nat.le_refl _, fun _ => rfl⟩, HM4, HO4⟩
      case round =>
        clear HM4 HO4
        obtain ⟨i, c0, hig, rfl, rfl, HCI, HM, HO⟩ := hrel
        obtain ⟨tt, htt⟩ : ∃ tt, Is (at_ + i) tt := ⟨_, Is.refl _⟩
        rw [htt.eq]
        by_cases hin : i < n
        · have e3 : decide ((i : Int) < (n : Int)) = true := by simpa using hin
          have i0 : (0 : Int) ≤ (i : Int) := by omega
          have i1 : (i : Int) < (n : Int) := by omega
          have ld := own_ld HO.out (by rw [segLs_len]; have := HN.out; omega) (i := i) (by rw [segLs_len]; exact hin)
          rw [segLs_at] at ld
          have TP := hid (tdS_put (b := b) (z := z) (d := d) (c := c0) (i := i) (n := n) HN.out.2.2 HN.out.1 hz1.2 HCI.out.1 hin hN10)
          obtain ⟨X, hX⟩ : ∃ X, Is (lnOf (segK ((i : Int) + 1) (decide (d + i = nseg b - 1))) (segB b (d + i))) X := ⟨_, Is.refl _⟩
          rw [hX.eq] at ld TP
          have htb : tt ≤ 4000 := by have := htt.eq; have := HB.out; have := HN.out; omega
          have w5 : IntKind.i64.wrap ((tt : Int) + 1) = ((at_ + (i + 1) : Nat) : Int) := (IntWalk.i64_in _ (by omega)).trans (by have := htt.eq; omega)
          have w6 : IntKind.i64.wrap ((i : Int) + 1) = ((i + 1 : Nat) : Int) := (IntWalk.i64_in _ (by have := HN.out; omega)).trans (by omega)
          have KA : Ext wr (wr.alloc (.cells X.cells LT)) := (by repeat (first | with_reducible exact Ext.refl _ | with_reducible assumption | with_reducible apply Ext.alloc | with_reducible apply Ext.drew | with_reducible apply Ext.drewN | (with_reducible refine Ext.set' ?_ (by first | omega | (simp only [World.size_alloc, World.size_setCell]; omega))) | (with_reducible refine Ext.trans ?_ (by with_reducible assumption)) | (with_reducible refine Ext.only ?_ (by with_reducible assumption) (by omega))))
          have HMA := hid (HM.out.more KA)
          have HOA := hid (HO.out.below KA)
          have HLX := hid (Blk.new wr X.cells LT)
          have KX : Ext w (wr.alloc (.cells X.cells LT)) := HM.out.ext.trans KA
          have HKX := hid KX
          have j0 : (0 : Int) ≤ (tt : Int) := by omega
          have cases3 : (decide ((tt : Int) < (l.length : Int)) = false) ∨ (decide ((tt : Int) < (l.length : Int)) = true ∧ decide ((tt : Int) < 200) = false) ∨ (decide ((tt : Int) < (l.length : Int)) = true ∧ decide ((tt : Int) < 200) = true ∧ (tt : Int) < (l.length : Int) ∧ tt < 200 ∧ ∃ q, A = some ⟨bl, o, none⟩ ∧ (wr.alloc (.cells X.cells LT)).cell? ⟨bl, o + tt, none⟩ = some (.bool q)) := by
            by_cases h1 : tt < l.length
            · have h1' : decide ((tt : Int) < (l.length : Int)) = true := by simpa using h1
              by_cases h2 : tt < 200
              · refine .inr (.inr ⟨h1', by simp; omega, by omega, h2, l[tt], ?_, ?_⟩)
                · exact (hl.2.1 (by omega)).1
                · have := KX.cell (hl.2.2 tt l[tt] (List.getElem?_eq_getElem h1) 0 _ rfl)
                  rw [Nat.mul_one, Nat.add_zero] at this
                  exact this
              · exact .inr (.inl ⟨h1', by simp; omega⟩)
            · exact .inl (by simp; omega)
          clear KA KX
          go_upto_region 14 with fail
          go_cut [15, 63] from 63 to 92 (fun u15 u63 wx => (∃ q : Bool, u15 = .bool q ∧ Hid (200 ≤ tt → q = false)) ∧ u63 = .int .i64 (i : Int) ∧ (wr.alloc (.cells X.cells LT)) = wx)
          case first =>
            rcases cases3 with h1 | ⟨h1, h2⟩ | ⟨h1, h2, h3, h4, q, rfl, hq⟩
            · have h1n : decide (tt < l.length) = false := by simpa using h1
              go_wp2_with fail
              go_meet
              case rel => exact ⟨⟨false, rfl, hid (fun _ => rfl)⟩, rfl, rfl⟩
            · have h1n : decide (tt < l.length) = true := by simpa using h1
              have h2n : decide (tt < 200) = false := by simp at h2 ⊢; omega
              go_wp2_with fail
              go_meet
              case rel => exact ⟨⟨false, rfl, hid (fun _ => rfl)⟩, rfl, rfl⟩
            · have h1n : decide (tt < l.length) = true := by simpa using h1
              have h2n : decide (tt < 200) = true := by simpa using h4
              have H4 := hid h4
              clear h4
              go_wp2_with fail
              go_meet
              case rel => exact ⟨⟨q, rfl, hid (fun h => absurd H4.out (by omega))⟩, rfl, rfl⟩
          case rest =>
            obtain ⟨⟨q, rfl, hq⟩, rfl, rfl⟩ := hcut
            clear cases3 ld
            cases q
            · have lx := ldL_blk HLX.out
              have HBX := hid (show Byt X.l from by rw [← hX.eq]; exact ln_byt HUB.out.byt ⟨by omega, by have := HN.out; omega⟩)
              have PC := hid (put_c w1.heap.size g (tdS b z d c0) X _ HMA.out.tk HBX.out HMA.out.ga (Nat.le_trans HMA.out.ob.size (Nat.le_refl _)) ⟨by show (0 : Int) ≤ (c0 : Int); omega, by show (c0 : Int) ≤ 1000; have := HCI.out; have := HN.out; omega⟩)
              rw [TP.out] at PC
              go_wp2_with fail
              (with_reducible refine (PC.out).mono ?_); rintro e w6 ⟨rfl, ht6, o6⟩
              have HM6 := hid (HMA.out.take ht6 o6)
              have HO6 := hid (by obtain ⟨x, hb, _⟩ := HMA.out.tk; exact own_keep HOA.out hb (by decide) o6.keep : OwnR lnLay w6 0 (.slice (some ⟨bl4, 0, none⟩) n c4) (segLs b d n))
              clear ht6 o6 PC lx
              go_wp2_with fail
              go_roundg (gk - 1)
              case rel => exact ⟨i + 1, if c0 = i then c0 + 1 else c0, by omega, rfl, rfl, hid ⟨by have := HCI.out; split <;> omega, fun h => by have := HCI.out.2 h; rw [if_pos this]; omega⟩, HM6, HO6⟩
              case measure => omega
            · have h200 := hid (show tt < 200 from by
                by_cases h : 200 ≤ tt
                · have := hq.out h
                  cases this
                · omega)
              go_wp2_with fail
              go_roundg (gk - 1)
              case rel => exact ⟨i + 1, c0, by omega, rfl, rfl, hid ⟨by have := HCI.out; omega, fun h => by have := h200.out; have := htt.eq; omega⟩, HMA, HOA⟩
              case measure => omega
        · obtain rfl : i = n := by omega
          have e3 : decide ((i : Int) < (i : Int)) = false := by simp
          have TA := hid (tack_c w1.heap.size g (tdS b z d c0) wr HM.out.tk HM.out.ga HM.out.ob.size)
          rw [tdS_ack] at TA
          change Hid (Calls Try.prog _ _ wr fun e w' => e = .returned (.tuple #[.int .i64 (c0 : Int), .int .i64 z]) ∧ TdAt w' w1.heap.size g (tdS b z (d + c0) 0) ∧ O8 w1.heap.size g wr w') at TA
          have hack : Sd.ack ⟨z, (i : Int), b, (d : Int)⟩ (c0 : Int) z = (⟨z, 0, b, ((d + c0 : Nat) : Int)⟩, 0) := by
            have h1 := HN.out
            have h2 := HCI.out
            unfold Sd.ack
            rw [if_neg (show ¬ (d : Int) = (nseg b : Int) by omega), if_neg (show ¬ ((c0 : Int) < 0 ∨ (i : Int) < (c0 : Int)) by omega), if_neg (by rw [HMAY.out]; simp)]
            simp
          have w7 : IntKind.i64.wrap ((rho : Int) + 1) = ((rho + 1 : Nat) : Int) := (IntWalk.i64_in _ (by omega)).trans (by omega)
          clear hin
          go_wp2_with fail
          (with_reducible refine (TA.out).mono ?_); rintro e w5 ⟨rfl, ht5, o5⟩
          have HM5 := hid (HM.out.take ht5 o5)
          have SK := hid (sack_c sb v ⟨z, (i : Int), b, (d : Int)⟩ (c0 : Int) z w5 HM5.out.sd (by show (i : Int) ≤ 1000; have := HN.out; omega) ⟨by show (0 : Int) ≤ (d : Int); omega, by show (d : Int) ≤ 1000; have := HN.out; omega⟩)
          rw [hack] at SK
          clear ht5 o5 TA hack
          go_wp2_with fail
          (with_reducible refine (SK.out).mono ?_); rintro e w6 ⟨rfl, hs6, o6⟩
          have HM6 := hid (HM5.out.send hs6 rfl o6)
          clear hs6 o6 SK
          go_wp2_with fail
          go_roundg (gk0 - 1)
          case rel => exact ⟨at_ + i, rho + 1, d + c0, by have := HG.out; omega, by rw [htt.eq], rfl, hid (by have h1 := HB.out; have h2 := HCI.out; have h3 := HN.out; exact ⟨by omega, by omega, by omega, fun h => prog_ok h1.1 h1.2.2.2 h2.2 h3.2.1.1 h⟩), HM6⟩
          case measure => (have := HG.out; omega)

theorem dec_bool {W : World} (es : List Value) (hl : es.length = 1) (h : Rd Try.prog W 4 es) : ∃ q : Bool, (fun q => [Value.bool q]) q = es ∧ True := by
  obtain ⟨q, rfl⟩ := h.bool Try.underlying4
  exact ⟨q, rfl, trivial⟩
theorem ccomes_entry (v0 v1 v2 : Value) (W : World) {base : Nat} (h0 : Rd Try.prog W 22 v0.cells.toList) (o0 : Value.okWide Try.prog W .any base 22 v0)
    (h1 : Rd Try.prog W 5 v1.cells.toList) (o1 : Value.okWide Try.prog W .any base 5 v1)
    (h2 : Rd Try.prog W 66 v2.cells.toList) (o2 : Value.okWide Try.prog W .any base 66 v2) :
    Calls Try.prog 5 #[v0, v1, v2] W fun e w' => e = .returned (.bool true) ∧ Below W.heap.size W w' := by
  obtain ⟨A, bl, o, b, cap, rfl, hlc, _, _, _, hr, hb⟩ := opn_bytes Try.underlying22 Try.underlying5 (by kernel_rfl) (by kernel_rfl) h0 o0
  obtain ⟨k, rfl, hk⟩ := opn_int Try.underlying5 h1 o1
  obtain ⟨A2, bl2, o2', l, c, rfl, hlc2, _, _, _, hrow, _⟩ := opn_rows (fun q => [Value.bool q]) (fun _ => True) 1 (by decide) Try.underlying66 (by kernel_rfl) dec_bool h2 o2
  exact ccomes_c _ b k A2 bl2 o2' c l W (Bs.row hlc hr hb) (wf_u8 hk).1 (wf_u8 hk).2 hrow hlc2

end Go.Proofs.Ytpdomjinhbnmfaa
