/- The law ConsLate. -/
import Derived.Test.YtocogmboocjjaaaCLive
import Derived.Test.YtocogmboocjjaaaOpen
import Derived.Deep.Cut
import Derived.Deep.CutRange
import Derived.Deep.DeepCutAuto
import Derived.Deep.RegionWith
set_option linter.unusedSimpArgs false
set_option linter.unusedVariables false
set_option linter.unnecessarySimpa false
namespace Go.Proofs.Ytocogmboocjjaaa
open Go.RowKit Go.Proofs.YtocogmboocjjaaaW.PrintWords
attribute [local go_sem] max2_max min2_min max_of_two min_of_two bxF_fr stF_fr stF_fr2 stF_put ldF_put ldV_put ldF_new guard_eq guard_ne bin_eq bin_ne alF_fr bdF_none bdF_ask bdF_len bdF_dat ext_drew' ext_alloc
attribute [local go_sem ↓] ldF_in ldV_in bxF_in stF_in cvS_in alF_in bdF_in ixS_in
attribute [local go_sem] bxC_ch chguard_eq chguard_ne chbin_eq chbin_ne ldC_new bxT_v alT_v stT_put stT_new bdT_none bdT_failed bdT_v bdW_v gUpon gStill
attribute [local go_sem ↓] ldC_in bxC_in stC_in ldT_in bxT_in stT_in alT_in bdT_in bdW_in
attribute [local go_sem] alC_v bdC_tab stC_new stC_new1 stS_tab stC_old ldC_new1
attribute [local go_sem ↓] alC_in bdC_in stS_in

/-- A taker at work by the law's table: whether a first frame came. -/
def lw (T G fr at_ v : Int) (hd : Bool) : Ts := ⟨true, tab2 T G, 0, if hd then ⟨1, true, [v], []⟩ else ⟨1, false, [], []⟩, if hd then ⟨true, fr, T, true, at_, G⟩ else ⟨true, fr, T, false, 0, G⟩⟩
theorem tkB_in {n : Int} (h0 : 0 ≤ n) (h1 : n ≤ 2147483647) : tkB n = true := by unfold tkB; simp [h0, h1]
theorem tickB_in {n : Int} (h0 : 0 ≤ n) (h1 : n ≤ 2147483647) : tickB n = true := by unfold tickB; simp [h0, h1]
theorem tab2_tks {T G : Int} (h0 : 1 ≤ T) (h1 : T ≤ 65535) (h2 : 1 ≤ G) (h3 : G ≤ 65535) : (tab2 T G).tks = true := by
  have e : (tab2 T G).tks = (mayB T && (mayB G && true)) := by
    unfold Ch.tks
    have : (tab2 T G).sz = 1 := by rfl
    rw [this]
    rfl
  rw [e]
  unfold mayB
  simp [h0, h1, h2, h3]
theorem late_start {T G fr at_ v : Int} (h0 : 1 ≤ T) (h1 : T ≤ 65535) (h2 : 1 ≤ G) (h3 : G ≤ 65535) (hf : 0 ≤ fr) (hf1 : fr ≤ 2147483647) : (Ts.rest 0).begin fr true (tab2 T G) = (lw T G fr at_ v false, 0) := by
  unfold Ts.begin
  rw [if_neg (by rw [tkB_in hf hf1]; simp [Ts.rest]), if_neg (by rw [tab2_tks h0 h1 h2 h3]; simp), if_pos (.inl rfl)]
  unfold Ts.start Gd.wake
  rw [tickB_in hf hf1]
  rfl
theorem late_tick {T G fr at_ v : Int} (hd : Bool) (h0 : 1 ≤ T) (h1 : T ≤ 65535) (h2 : 1 ≤ G) (h3 : G ≤ 65535) {now : Int} (hf : 0 ≤ now) (hf1 : now ≤ 2147483647) (a : now - fr ≤ T) (b : hd = true → now - at_ ≤ G) : (lw T G fr at_ v hd).begin now true (tab2 T G) = (lw T G fr at_ v hd, 0) := by
  have hg : (lw T G fr at_ v hd).gd.check now = 0 := by
    unfold Gd.check
    rw [tickB_in hf hf1]
    cases hd
    · have e1 : decide (T < now - fr) = false := by simp; omega
      simp [lw, chk, e1]
      try omega
    · have e1 : decide (T < now - fr) = false := by simp; omega
      have e2 : decide (G < now - at_) = false := by have := b rfl; simp; omega
      simp [lw, chk, e1, e2]
      try omega
  unfold Ts.begin
  rw [if_neg (by rw [tkB_in hf hf1]; simp [lw]), if_neg (by rw [tab2_tks h0 h1 h2 h3]; simp), if_neg (by simp [lw, chEq_refl]), if_pos hg]
theorem late_end {T G fr at_ v : Int} (hd : Bool) (c : Int) (h0 : 1 ≤ T) (h1 : T ≤ 65535) (h2 : 1 ≤ G) (h3 : G ≤ 65535) {now : Int} (hf : 0 ≤ now) (hf1 : now ≤ 2147483647) (a : (c = 4 ∧ T < now - fr) ∨ (c = 5 ∧ now - fr ≤ T ∧ hd = true ∧ G < now - at_)) : (lw T G fr at_ v hd).begin now true (tab2 T G) = (Ts.rest c, c) := by
  have hg : (lw T G fr at_ v hd).gd.check now = c := by
    unfold Gd.check
    rw [tickB_in hf hf1]
    rcases a with ⟨rfl, h⟩ | ⟨rfl, h, rfl, h'⟩
    · have e1 : decide (T < now - fr) = true := by simpa using h
      cases hd
      · simp [lw, chk, e1]
        try omega
      · simp [lw, chk, e1]
        try omega
    · have e1 : decide (T < now - fr) = false := by simp; omega
      have e2 : decide (G < now - at_) = true := by simpa using h'
      simp [lw, chk, e1, e2]
      try omega
  have hc : ¬ c = 0 := by omega
  unfold Ts.begin
  rw [if_neg (by rw [tkB_in hf hf1]; simp [lw]), if_neg (by rw [tab2_tks h0 h1 h2 h3]; simp), if_neg (by simp [lw, chEq_refl]), hg, if_neg hc]
theorem byt_getD {l : List Int} (h : Byt l) (i : Nat) : 0 ≤ l.getD i 0 ∧ l.getD i 0 ≤ 255 := by
  by_cases hi : i < l.length
  · exact h.at hi
  · rw [List.getD_eq_getElem?_getD, List.getElem?_eq_none (by omega)]
    exact ⟨by decide, by decide⟩
theorem mk_small {p : Int} {l : List Int} (h0 : 0 ≤ p) (h1 : p ≤ 2047) (hl : l.length ≤ 8) (hb : Byt l) : (mkFr p l).chk = 0 ∧ (mkFr p l).bytes = l ∧ Byt (mkFr p l).data := by
  have hp : ¬ (p < 0 ∨ 2047 < p) := by omega
  have key : (mkFr p l).chk = 0 ∧ (mkFr p l).data.take (mkFr p l).len.toNat = l := by
    rcases l with _ | ⟨a0, _ | ⟨a1, _ | ⟨a2, _ | ⟨a3, _ | ⟨a4, _ | ⟨a5, _ | ⟨a6, _ | ⟨a7, _ | ⟨a8, t⟩⟩⟩⟩⟩⟩⟩⟩⟩
    all_goals first | (exfalso; simp only [List.length_cons] at hl; omega; done) | (refine ⟨?_, rfl⟩; unfold Fr.chk; rw [if_neg (by exact hp), if_neg (by show ¬ (_ ∨ _); simp [mkFr])]; simp [mkFr, Fr.plain, frEq])
  refine ⟨key.1, ?_, ?_⟩
  · unfold Fr.bytes Fr.has
    rw [key.1]
    exact key.2
  · intro x hx
    have : ∃ j, x = l.getD j 0 := by
      simp only [mkFr, Fr.data, List.mem_cons, List.not_mem_nil, or_false] at hx
      rcases hx with rfl | rfl | rfl | rfl | rfl | rfl | rfl | rfl <;> exact ⟨_, rfl⟩
    obtain ⟨j, rfl⟩ := this
    exact byt_getD hb j
theorem late_hear {T G fr v now : Int} (at0 : Int) (hf : 0 ≤ now) (hf1 : now ≤ 2147483647) (hv0 : 0 ≤ v) (hv1 : v ≤ 255) : (lw T G fr at0 v false).hear now ⟨257, false, 1, v, 0, 0, 0, 0, 0, 0, 0⟩ = (lw T G fr now v true, [], 0) := by
  obtain ⟨m1, m2, m3⟩ := mk_small (p := 257) (l := [v]) (by omega) (by omega) (by show 1 ≤ 8; omega) (Byt.one hv0 hv1)
  change Fr.chk ⟨257, false, 1, v, 0, 0, 0, 0, 0, 0, 0⟩ = 0 at m1
  change Fr.bytes ⟨257, false, 1, v, 0, 0, 0, 0, 0, 0, 0⟩ = [v] at m2
  have ht : (lw T G fr at0 v false).told ⟨257, false, 1, v, 0, 0, 0, 0, 0, 0, 0⟩ = (⟨1, true, [v], []⟩, 1) := by
    unfold Ts.told
    refine (if_pos rfl).trans ?_
    rw [m2]
    rfl
  unfold Ts.hear
  rw [if_neg (by rw [tkB_in hf hf1, m1]; simp [lw]), ht]
  unfold Ts.heard
  rw [if_pos rfl]
  have hg : (lw T G fr at0 v false).gd.half now = ⟨true, fr, T, true, now, G⟩ := by
    unfold Gd.half
    rw [tickB_in hf hf1]
    rfl
  rw [hg]
  rfl

set_option maxRecDepth 100000 in
set_option maxHeartbeats 8000000 in
theorem clate_c (tm gp fr fst v : Int) (cm : Bool) (w : World) (a0 : 0 ≤ tm) (a1 : tm ≤ 255) (b0 : 0 ≤ gp) (b1 : gp ≤ 255) (f0 : 0 ≤ fr) (f1 : fr ≤ 65535) (g0 : 0 ≤ fst) (g1 : fst ≤ 255) (v0 : 0 ≤ v) (v1 : v ≤ 255) :
    Calls Try.prog 3 #[.int .u8 tm, .int .u8 gp, .int .u16 fr, .int .u8 fst, .bool cm, .int .u8 v] w fun e w' => e = .returned (.bool true) ∧ Ext w w' := by
  obtain ⟨T, hT⟩ : ∃ T, Is (1 + tm % 100) T := ⟨_, Is.refl _⟩
  obtain ⟨G, hG⟩ : ∃ G, Is (1 + gp % 100) G := ⟨_, Is.refl _⟩
  have HT : Hid (1 ≤ T ∧ T ≤ 100) := hid (by have := hT.eq; omega)
  have HG : Hid (1 ≤ G ∧ G ≤ 100) := hid (by have := hG.eq; omega)
  have TB := hid (fun w => table2_c T G w)
  have hw3 : IntKind.i64.wrap fr = fr := IntWalk.i64_in _ (by omega)
  have hw4 : IntKind.i64.wrap fst = fst := IntWalk.i64_in _ (by omega)
  go_enter Try.func3, Try.ntmps3
  go_wp2_with fail
  rw [hT.eq, hG.eq]
  (with_reducible refine (TB.out _).mono ?_); rintro e w1 ⟨rfl, k1⟩
  have HX := hid (Blk.new w1 (tab2 T G).cells CT)
  have KX : Ext w (w1.alloc (.cells (tab2 T G).cells CT)) := (by repeat (first | with_reducible exact Ext.refl _ | with_reducible assumption | with_reducible apply Ext.alloc | with_reducible apply Ext.drew | with_reducible apply Ext.drewN | (with_reducible refine Ext.set' ?_ (by first | omega | (simp only [World.size_alloc, World.size_setCell]; omega))) | (with_reducible refine Ext.trans ?_ (by with_reducible assumption)) | (with_reducible refine Ext.only ?_ (by with_reducible assumption) (by omega))))
  clear k1 TB
  go_wp2_with fail
  generalize hxb : w1.heap.size = xb at *
  generalize (w1.alloc (.cells (tab2 T G).cells CT)) = w2 at *
  (with_reducible refine (cnew_c _).mono ?_); rintro e w3 ⟨b, rfl, ht, hb, k3⟩
  have HT3 := hid ht
  have HX3 := hid (k3.blk HX.out)
  have K3 := KX.trans k3
  have hb3 : w.heap.size ≤ b := Nat.le_trans KX.le hb
  have c1 : w3.cell? ⟨xb, 1, none⟩ = some (.int .i64 T) := HX3.out.chat (j := 1) (by omega)
  have c2 : w3.cell? ⟨xb, 2, none⟩ = some (.int .i64 G) := HX3.out.chat (j := 2) (by omega)
  have t0 := HT.out.1
  have t1 := HT.out.2
  have q0 := HG.out.1
  have q1 := HG.out.2
  have hne : ¬ (T + 1 = 0) := by omega
  have hwT : IntKind.i64.wrap (T + 1) = T + 1 := IntWalk.i64_in _ (by omega)
  obtain ⟨rm, hrm⟩ : ∃ rm, fst % (T + 1) = rm := ⟨_, rfl⟩
  have HRM : Hid (0 ≤ rm ∧ rm ≤ T) := hid (by
    have h1 := Int.emod_nonneg fst hne
    have h2 := Int.emod_lt_of_pos fst (show 0 < T + 1 by omega)
    omega)
  obtain ⟨at_, hat⟩ : ∃ a, Is (fr + rm) a := ⟨_, Is.refl _⟩
  have HAT : Hid (fr ≤ at_ ∧ at_ ≤ fr + T) := hid (by have := hat.eq; have := HRM.out; omega)
  have hwa : IntKind.i64.wrap (fr + rm) = at_ := (IntWalk.i64_in _ (by have := HRM.out; omega)).trans hat.eq
  have hwb : IntKind.i64.wrap (at_ + G) = at_ + G := IntWalk.i64_in _ (by have := HAT.out; omega)
  have hwc : IntKind.i64.wrap (at_ + G + 1) = at_ + G + 1 := IntWalk.i64_in _ (by have := HAT.out; omega)
  clear hT hG ht hb k3 KX HX hxb
  obtain ⟨cq, hcq⟩ : ∃ q, Is (cm && decide (at_ + G < fr + T)) q := ⟨_, Is.refl _⟩
  go_upto_region 5 with fail
  go_cut [59] (fun u59 wx => u59 = .bool cq ∧ w3 = wx)
  case first =>
    cases cm
    · obtain rfl : cq = false := by rw [← hcq.eq]; rfl
      go_wp2_with fail
      go_meet
      case rel => exact ⟨rfl, rfl⟩
    · have e1 : decide (at_ + G < fr + T) = cq := by rw [← hcq.eq]; rfl
      go_wp2_with fail
      go_meet
      case rel => exact ⟨rfl, rfl⟩
  case rest =>
    obtain ⟨rfl, rfl⟩ := hcut
    go_upto_if 59 with fail
    go_cut [16, 17] (fun u16 u17 wx => w3 = wx ∧ ∃ W c : Int, u16 = .int .i64 W ∧ u17 = .int .i64 c ∧ Hid ((∀ n, fr < n → n < W → n - fr ≤ T ∧ (cm = true → at_ < n → n - at_ ≤ G)) ∧ ((c = 4 ∧ T < W - fr) ∨ (c = 5 ∧ W - fr ≤ T ∧ cm = true ∧ at_ < W ∧ G < W - at_)) ∧ fr < W ∧ W ≤ fr + 101))
    case first =>
      cases cq
      · have HQ := hid hcq.eq
        clear hcq
        go_wp2_with fail
        go_meet
        case rel =>
          have h := HQ.out
          refine ⟨rfl, fr + T + 1, 4, rfl, rfl, hid ⟨fun n h1 h2 => ⟨by omega, fun hc h3 => ?_⟩, .inl ⟨rfl, by omega⟩, by omega, by omega⟩⟩
          rw [hc] at h
          have h' : ¬ (at_ + G < fr + T) := by simpa using h
          omega
      · have HQ := hid hcq.eq
        clear hcq
        go_wp2_with fail
        go_meet
        case rel =>
          have h := HQ.out
          have hA := HAT.out
          simp only [Bool.and_eq_true, decide_eq_true_iff] at h
          refine ⟨rfl, at_ + G + 1, 5, rfl, rfl, hid ⟨fun n h1 h2 => ⟨by omega, fun hc h3 => by omega⟩, .inr ⟨rfl, by omega, h.1, by omega, by omega⟩, by omega, by omega⟩⟩
    case rest =>
      obtain ⟨rfl, W, c, rfl, rfl, HW⟩ := hcut
      clear hcq hwa hwb hwc c1 c2 hwT hne hrm HRM hw3 hw4 hat
      obtain ⟨N, hN⟩ : ∃ N : Nat, W = fr + N := ⟨(W - fr).toNat, by have := HW.out; omega⟩
      have HNN : Hid (N ≤ 101 ∧ 0 < N) := hid (by have := HW.out; omega)
      have K3' := K3
      go_wp2_with fail
      go_loopg [18] N (fun g u18 wr => ∃ (i : Nat) (cb gb : Nat), i + g = N ∧ u18 = .int .i64 (fr + i) ∧ Hid (TkAt wr b cb gb (if i = 0 then Ts.rest 0 else lw T G fr at_ v (cm && decide (at_ < fr + i)))) ∧ Hid (w.heap.size ≤ b ∧ w.heap.size ≤ cb ∧ w.heap.size ≤ gb) ∧ Hid (Blk wr xb (tab2 T G).cells CT) ∧ Ext w wr)
      case atStart => exact ⟨0, b, b, by omega, by simp, HT3, hid ⟨hb3, hb3, hb3⟩, HX3, K3⟩
      case round =>
        clear HT3 HX3 K3 K3'
        obtain ⟨i, cb, gb, hig, rfl, HTK, HBB, HXX, K⟩ := hrel
        obtain ⟨st, hst⟩ : ∃ st, Is (if i = 0 then Ts.rest 0 else lw T G fr at_ v (cm && decide (at_ < fr + i))) st := ⟨_, Is.refl _⟩
        rw [hst.eq] at HTK
        obtain ⟨hd, hhd⟩ : ∃ q, Is (cm && decide (at_ < fr + (i : Int))) q := ⟨_, Is.refl _⟩
        obtain ⟨now, hnow⟩ : ∃ q, Is (fr + (i : Int)) q := ⟨_, Is.refl _⟩
        have hnw : now = fr + (i : Int) := hnow.eq.symm
        have hn0 : 0 ≤ now := by omega
        have hn1 : now ≤ 2147483647 := by have := HNN.out; omega
        have T0 := HT.out.1
        have T1 : T ≤ 65535 := by have := HT.out.2; omega
        have G0 := HG.out.1
        have G1 : G ≤ 65535 := by have := HG.out.2; omega
        have BG : Hid (st.begin now true (tab2 T G) = if i = N then (Ts.rest c, c) else (lw T G fr at_ v hd, 0)) := hid (by
          rw [← hst.eq, ← hhd.eq]
          by_cases hi0 : i = 0
          · rw [if_pos hi0, if_neg (by have := HNN.out; omega)]
            have e : (cm && decide (at_ < fr + (i : Int))) = false := by
              have : decide (at_ < fr + (i : Int)) = false := by have := HAT.out; simp; omega
              rw [this]; simp
            rw [e, show now = fr by omega]
            exact late_start T0 T1 G0 G1 f0 (by omega)
          · rw [if_neg hi0]
            by_cases hiN : i = N
            · rw [if_pos hiN]
              refine late_end _ c T0 T1 G0 G1 hn0 hn1 ?_
              rcases HW.out.2.1 with ⟨h1, h2⟩ | ⟨h1, h2, h3, h4, h5⟩
              · exact .inl ⟨h1, by omega⟩
              · refine .inr ⟨h1, by omega, ?_, by omega⟩
                rw [h3]
                have : decide (at_ < fr + (i : Int)) = true := by simp; omega
                rw [this]; rfl
            · rw [if_neg hiN]
              have h := HW.out.1 now (by omega) (by omega)
              refine late_tick _ T0 T1 G0 G1 hn0 hn1 h.1 (fun q => ?_)
              simp only [Bool.and_eq_true, decide_eq_true_iff] at q
              exact h.2 q.1 (by omega))
        have e1 : decide (now ≤ W) = true := by simp; omega
        have lx := ldC_blk HXX.out
        rw [hnow.eq]
        have hb0 := HBB.out.1
        have CB := hid (begin_c b cb gb st now true (tab2 T G) wr HTK.out)
        rw [BG.out] at CB
        have hwn : IntKind.i64.wrap (now + 1) = now + 1 := IntWalk.i64_in _ (by have := HNN.out; omega)
        have HNW := hid hnw
        have HHD := hid hhd.eq
        clear BG hst hhd hnow
        by_cases hiN : i = N
        · rw [if_pos hiN] at CB
          have e2 : (now == W) = true := by simp; omega
          have e3 : (c == c) = true := by simp
          clear hnw hN
          go_wp2_with fail
          (with_reducible refine (CB.out).mono ?_); rintro e w4 ⟨rfl, cb4, gb4, ht, o4, n1, n2⟩
          try simp only at ht
          have HT4 := hid ht
          have K4 : Ext w w4 := o4.ext K hb0 HBB.out.2.1 HBB.out.2.2
          clear ht o4 n1 n2 lx
          go_wp2_with fail
          (with_reducible refine (clive_c _).mono ?_); rintro e w5 ⟨rfl, k5⟩
          have HT5 := hid (HT4.out.ext k5)
          have K5 := K4.trans k5
          have FC := hid (failed_c b c w5 HT5.out.cf)
          have WC := hid (works_c b false w5 HT5.out.cw)
          clear k5 HT4 K4
          go_wp2_with fail
          (with_reducible refine (FC.out).mono ?_); rintro e w6 ⟨rfl, rfl⟩
          go_wp2_with fail
          (with_reducible refine (WC.out).mono ?_); rintro e w6 ⟨rfl, rfl⟩
          go_wp2_with fail
          go_ret
          exact ⟨rfl, K5⟩
        · rw [if_neg hiN] at CB
          have e2 : (now == W) = false := by simp; omega
          clear hnw hN
          go_wp2_with fail
          (with_reducible refine (CB.out).mono ?_); rintro e w4 ⟨rfl, cb4, gb4, ht, o4, n1, n2⟩
          try simp only at ht
          have HT4 := hid ht
          have hb0' := hb0
          have HC4 := hid (And.intro (n1.le hb0 HBB.out.2.1 K.le) (n2.le hb0 HBB.out.2.2 K.le))
          have HX4 := hid (HTK.out.keep o4 HXX.out (by decide) (by decide) (by decide))
          have K4 : Ext w w4 := o4.ext K hb0 HBB.out.2.1 HBB.out.2.2
          have WC := hid (works_c b true w4 ht.cw)
          clear ht o4 n1 n2 lx HXX HTK K
          have HFR : Hid (∀ q, (cm && decide (at_ < fr + ((i + 1 : Nat) : Int))) = q → (if i + 1 = 0 then Ts.rest 0 else lw T G fr at_ v (cm && decide (at_ < fr + ((i + 1 : Nat) : Int)))) = lw T G fr at_ v q) := hid (fun q h => by rw [if_neg (by omega), h])
          by_cases hca : cm = true ∧ now = at_
          · obtain ⟨rfl, hna⟩ := hca
            have e3 : (now == at_) = true := by simpa using hna
            obtain rfl : hd = false := by
              rw [← HHD.out]
              have := HNW.out
              have : decide (at_ < fr + (i : Int)) = false := by simp; omega
              rw [this]; rfl
            have HN1 : Hid ((true && decide (at_ < fr + ((i + 1 : Nat) : Int))) = true) := hid (by have := HNW.out; simp; omega)
            have HH := hid (hear_c b cb4 gb4 (lw T G fr at_ v false) now ⟨257, false, 1, v, 0, 0, 0, 0, 0, 0, 0⟩ w4 HT4.out (byt8 v v0 v1 257))
            rw [late_hear at_ hn0 hn1 v0 v1] at HH
            have HNA := hid hna
            clear HHD hna
            go_wp2_with fail
            (with_reducible refine (WC.out).mono ?_); rintro e w5 ⟨rfl, rfl⟩
            go_wp2_with fail
            (with_reducible refine (HH.out).mono ?_); rintro e w5 ⟨u5, rfl, -, ⟨cb5, gb5, ht, n1, n2⟩, o5⟩
            try simp only at ht
            rw [HNA.out] at ht
            have HT5 := hid ht
            have HC5 := hid (And.intro (n1.le hb0 HC4.out.1 K4.le) (n2.le hb0 HC4.out.2 K4.le))
            have HX5 := hid (HT4.out.keep o5 HX4.out (by decide) (by decide) (by decide))
            have K5 : Ext w w5 := o5.ext K4 hb0 HC4.out.1 HC4.out.2
            clear ht n1 n2 o5 HH HT4
            go_wp2_with fail
            go_roundg (gk - 1)
            case rel => exact ⟨i + 1, cb5, gb5, by omega, by rw [HNW.out]; go_num, hid (by rw [HFR.out _ HN1.out]; exact HT5.out), hid ⟨hb0, HC5.out.1, HC5.out.2⟩, HX5, K5⟩
            case measure => omega
          · have HN1 : Hid ((cm && decide (at_ < fr + ((i + 1 : Nat) : Int))) = hd) := hid (by
              rw [← HHD.out]
              cases cm
              · rfl
              · have h1 : now ≠ at_ := fun e => hca ⟨rfl, e⟩
                have := HNW.out
                simp only [Bool.true_and, decide_eq_decide]
                omega)
            cases cm
            · clear hca HHD
              go_wp2_with fail
              (with_reducible refine (WC.out).mono ?_); rintro e w5 ⟨rfl, rfl⟩
              go_wp2_with fail
              go_roundg (gk - 1)
              case rel => exact ⟨i + 1, cb4, gb4, by omega, by rw [HNW.out]; go_num, hid (by rw [HFR.out _ HN1.out]; exact HT4.out), hid ⟨hb0, HC4.out.1, HC4.out.2⟩, HX4, K4⟩
              case measure => omega
            · have e3 : (now == at_) = false := by
                have h1 : now ≠ at_ := fun e => hca ⟨rfl, e⟩
                simpa using h1
              clear hca HHD
              go_wp2_with fail
              (with_reducible refine (WC.out).mono ?_); rintro e w5 ⟨rfl, rfl⟩
              go_wp2_with fail
              go_roundg (gk - 1)
              case rel => exact ⟨i + 1, cb4, gb4, by omega, by rw [HNW.out]; go_num, hid (by rw [HFR.out _ HN1.out]; exact HT4.out), hid ⟨hb0, HC4.out.1, HC4.out.2⟩, HX4, K4⟩
              case measure => omega

set_option maxRecDepth 100000 in
theorem clate_entry (v0 v1 v2 v3 v4 v5 : Value) (W : World) {base : Nat} (h0 : Rd Try.prog W 5 v0.cells.toList) (o0 : Value.okWide Try.prog W .any base 5 v0)
    (h1 : Rd Try.prog W 5 v1.cells.toList) (o1 : Value.okWide Try.prog W .any base 5 v1)
    (h2 : Rd Try.prog W 22 v2.cells.toList) (o2 : Value.okWide Try.prog W .any base 22 v2)
    (h3 : Rd Try.prog W 5 v3.cells.toList) (o3 : Value.okWide Try.prog W .any base 5 v3)
    (h4 : Rd Try.prog W 4 v4.cells.toList) (o4 : Value.okWide Try.prog W .any base 4 v4)
    (h5 : Rd Try.prog W 5 v5.cells.toList) (o5 : Value.okWide Try.prog W .any base 5 v5) :
    Calls Try.prog 3 #[v0, v1, v2, v3, v4, v5] W fun e w' => e = .returned (.bool true) ∧ Below W.heap.size W w' := by
  obtain ⟨a, rfl, ha⟩ := opn_int Try.underlying5 h0 o0
  obtain ⟨b, rfl, hb⟩ := opn_int Try.underlying5 h1 o1
  obtain ⟨c, rfl, hc⟩ := opn_int Try.underlying22 h2 o2
  obtain ⟨d, rfl, hd⟩ := opn_int Try.underlying5 h3 o3
  obtain ⟨q, rfl⟩ := opn_bool Try.underlying4 o4
  obtain ⟨v, rfl, hv⟩ := opn_int Try.underlying5 h5 o5
  exact clate_c a b c d v q W (wf_u8 ha).1 (wf_u8 ha).2 (wf_u8 hb).1 (wf_u8 hb).2 (wf_u16 hc).1 (wf_u16 hc).2 (wf_u8 hd).1 (wf_u8 hd).2 (wf_u8 hv).1 (wf_u8 hv).2

end Go.Proofs.Ytocogmboocjjaaa
