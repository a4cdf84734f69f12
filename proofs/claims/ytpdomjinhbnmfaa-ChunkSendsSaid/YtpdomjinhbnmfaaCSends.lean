/- The law ChunkSends. -/
import Derived.Test.YtpdomjinhbnmfaaRBlk
import Derived.Test.YtpdomjinhbnmfaaLv
import Derived.Deep.Cut
import Derived.Deep.CutRange
import Derived.Deep.DeepCutAuto
import Derived.Deep.RegionWith
set_option linter.unusedSimpArgs false
set_option linter.unusedVariables false
set_option linter.unnecessarySimpa false
set_option maxRecDepth 100000
namespace Go.Proofs.Ytpdomjinhbnmfaa
open Go.RowKit Go.Proofs.YtpdomjinhbnmfaaW.PrintWords
open Go.Proofs.Ytpdomjinhbnmfaa.Pure (crc16V)
attribute [local go_sem] max2_max min2_min max_of_two min_of_two alL_v bdL_none bdL_one bxL_ln lnguard_eq lnguard_ne lnbin_eq lnbin_ne
attribute [local go_sem ↓] ldL_in bxL_in stL_in alL_in bdL_in cvS_in
attribute [local go_sem] gUpon gStill alQ_v bxQ_v bdQ_ack bdQ_new
attribute [local go_sem ↓] ldQ_in bxQ_in stQ_in alQ_in bdQ_in

theorem own_ld2 {w : World} {bl n c : Nat} {l : List Ln} (h : OwnR lnLay w 0 (.slice (some ⟨bl, 0, none⟩) n c) l) (hl : l.length ≤ 1000) {i : Nat} (hi : i < l.length) : (ldL (.pointer (some ⟨bl, i * 8, none⟩))).run Try.prog w = .ok (l[i]).val w := by
  obtain ⟨A', bl', c', he, _, hr⟩ := h.rows (by omega)
  injection he with h1 _ _
  obtain ⟨h2, _⟩ := hr.2.1 (by omega)
  rw [h2] at h1
  injection h1 with h1
  injection h1 with h1
  subst h1
  refine ldL_mid (fun j v hv => ?_)
  have := hr.2.2 i l[i] (List.getElem?_eq_getElem hi) j v (by simpa [Ln.cells, lnLay] using hv)
  rw [Nat.zero_add] at this
  exact this
theorem own_ptr {w : World} {A : Option Addr} {n c : Nat} {l : List Ln} (h : OwnR lnLay w 0 (.slice A n c) l) (hl : 0 < l.length) (h1 : l.length ≤ 1000) : n = l.length ∧ n ≤ c ∧ ∃ bl, A = some ⟨bl, 0, none⟩ := by
  obtain ⟨A', bl', c', he, hc, hr⟩ := h.rows (by omega)
  injection he with e1 e2 e3
  obtain ⟨h2, _⟩ := hr.2.1 hl
  exact ⟨e2, by omega, bl', by rw [e1, h2]⟩
set_option maxHeartbeats 1000000 in
theorem same_c (u v : Value) (l : List Ln) (w : World) (hu : OwnR lnLay w 0 u l) (hv : OwnR lnLay w 0 v l) (hl : l.length ≤ 1000) :
    Calls Try.prog 12 #[u, v] w fun e w' => e = .returned (.bool true) ∧ Ext w w' := by
  obtain ⟨A1, c1, rfl⟩ := hu.form
  obtain ⟨A2, c2, rfl⟩ := hv.form
  have HU := hid hu
  have HV := hid hv
  have E0 := hid (Ext.refl w)
  have f0 : ((l.length : Int) != (l.length : Int)) = false := by simp
  clear hu hv
  go_enter Try.func12, Try.ntmps12
  go_wp2_with fail
  go_loopg [5] l.length (fun g u5 wr => ∃ i : Nat, i + g = l.length ∧ u5 = .int .i64 (i : Int) ∧ Hid (Ext w wr))
  case atStart => exact ⟨0, by omega, rfl, E0⟩
  case round =>
    clear E0
    obtain ⟨i, hig, rfl, HK⟩ := hrel
    by_cases hlt : i < l.length
    · have e1 : decide ((i : Int) < (l.length : Int)) = true := by simpa using hlt
      have i0 : (0 : Int) ≤ (i : Int) := by omega
      have i1 : (i : Int) < (l.length : Int) := by omega
      obtain ⟨_, _, b1, rfl⟩ := own_ptr HU.out (by omega) hl
      obtain ⟨_, _, b2, rfl⟩ := own_ptr HV.out (by omega) hl
      have KD : Ext w wr.drew := HK.out.drew
      have ld1 := own_ld2 (HU.out.below KD) hl hlt
      have ld2 := own_ld2 (HV.out.below KD) hl hlt
      have hq := lnEq_refl l[i]
      have HKD := hid KD
      generalize l[i] = X at *
      clear KD
      go_wp2_with fail
      go_region
      go_wp2_with fail
      go_roundg (gk - 1)
      case rel => exact ⟨i + 1, by omega, by go_num, HKD⟩
      case measure => omega
    · obtain rfl : i = l.length := by omega
      have e1 : decide ((l.length : Int) < (l.length : Int)) = false := by simp
      go_wp2_with fail
      go_ret
      exact ⟨rfl, HK.out⟩

/-- What is done. -/
structure Da where
  ask : Bool
  seq : Int
  blk : Int
def Da.cells (d : Da) : List Value := [.bool d.ask, .int .i64 d.seq, .int .i64 d.blk]
theorem dec_da {W : World} (es : List Value) (hl : es.length = 3) (h : Rd Try.prog W 36 es) : ∃ d : Da, d.cells = es ∧ True := by
  obtain ⟨b0, h0⟩ := h.fieldBool Try.underlying36 0 rfl Try.underlying4 (by kernel_rfl)
  obtain ⟨n1, h1, _⟩ := h.fieldInt Try.underlying36 1 rfl Try.underlying3 (by kernel_rfl)
  obtain ⟨n2, h2, _⟩ := h.fieldInt Try.underlying36 2 rfl Try.underlying3 (by kernel_rfl)
  change es[0]? = some _ at h0
  change es[1]? = some _ at h1
  change es[2]? = some _ at h2
  refine ⟨⟨b0, n1, n2⟩, ?_, trivial⟩
  rcases es with _ | ⟨a0, _ | ⟨a1, _ | ⟨a2, _ | _⟩⟩⟩ <;> simp at hl
  simp at h0 h1 h2
  simp [Da.cells, h0, h1, h2]
/-- The memory of the two senders. -/
structure SS (w : World) (sb rb : Nat) (v u : Value) (b : List Int) (d : Nat) (y z : Int) (wx : World) : Prop where
  sd : SdAt wx sb v ⟨z, y, b, (d : Int)⟩
  rq : Blk wx rb (Qs.cells ⟨u, (d : Int), y, z⟩) QT
  ext : Ext w wx
  s0 : w.heap.size ≤ sb
  r0 : w.heap.size ≤ rb
theorem SS.more {w : World} {sb rb : Nat} {v u : Value} {b : List Int} {d : Nat} {y z : Int} {wx wy : World} (h : SS w sb rb v u b d y z wx) (k : Ext wx wy) : SS w sb rb v u b d y z wy := ⟨h.sd.ext k, k.blk h.rq, h.ext.trans k, h.s0, h.r0⟩
theorem blk_ne {w : World} {a b : Nat} {cs ds : Array Value} {t s : TypeId} (h : Blk w a cs t) (k : Blk w b ds s) (hn : t ≠ s) : a ≠ b := by
  rintro rfl
  unfold Blk at h k
  rw [h] at k
  injection k with k
  injection k with _ k _
  exact hn k
theorem Qs.no8 {A : Option Addr} {n c : Nat} {d y z : Int} : No8 (Qs.cells ⟨.slice A n c, d, y, z⟩) := by
  intro j x hj
  rcases j with _ | _ | _ | _ | j <;> simp [Qs.cells] at hj
/-- Two steps in one: the reference's record, then the sender. -/
abbrev BothP (w : World) (sb rb : Nat) (v u : Value) (b : List Int) (d : Nat) (y z : Int) (d' : Nat) (y' z' : Int) (wy : World) : Prop :=
  SdAt wy sb v ⟨z, y, b, (d : Int)⟩ ∧ Ext w wy ∧ (∀ wz, Only sb wy wz → SdAt wz sb v ⟨z', y', b, (d' : Int)⟩ → SS w sb rb v u b d' y' z' wz)
theorem SS.both {w : World} {sb rb : Nat} {v : Value} {A : Option Addr} {n c : Nat} {b : List Int} {d d' : Nat} {y z y' z' : Int} {wx wy : World} (h : SS w sb rb v (.slice A n c) b d y z wx) (o : Only rb wx wy) (hr : Blk wy rb (Qs.cells ⟨.slice A n c, (d' : Int), y', z'⟩) QT) :
    BothP w sb rb v (.slice A n c) b d y z d' y' z' wy := by
  have hne := blk_ne h.sd.1 h.rq (by decide)
  have K : Ext w wy := Ext.only h.ext o h.r0
  exact ⟨⟨h.sd.1.kept o hne, h.sd.2.1.only h.rq Qs.no8 o, h.sd.2.2⟩, K, fun wz o2 hs => ⟨hs, hr.kept o2 (fun e => hne e.symm), Ext.only K o2 h.s0, h.s0, h.r0⟩⟩

theorem stQ_new (w : World) (A : Option Addr) (n c : Nat) (d y k : Int) : (stQ (.pointer (some ⟨w.heap.size, 0, none⟩)) (Qs.val ⟨.slice A n c, d, y, k⟩)).run Try.prog (w.alloc (.cells Qs.zero.cells QT)) = .ok () (w.alloc (.cells (Qs.cells ⟨.slice A n c, d, y, k⟩) QT)) := by
  rw [stQ_put _ _ ⟨.slice A n c, d, y, k⟩ Qs.zero A n c rfl (Blk.new w Qs.zero.cells QT), set_row_last]
theorem own_only'' {w w' : World} {B g : Nat} {v : Value} {l : List Ln} {cs : Array Value} {t : TypeId} (h : OwnR lnLay w B v l) (hb : Blk w g cs t) (ht : t ≠ LT) (k : Only g w w') : OwnR lnLay w' B v l := own_only' h hb ht k

theorem may_iff (n : Int) : mayN n = false ↔ n < 1 ∨ 127 < n := by
  unfold mayN
  by_cases h1 : 1 ≤ n <;> by_cases h2 : n ≤ 127 <;> simp [h1, h2] <;> omega
theorem acks_same (u : Value) (b : List Int) (d : Nat) (y z seq size : Int) (hy : 0 ≤ y) (hd : d ≤ nseg b) (hdy : (d : Int) + y ≤ nseg b) (hz : 1 ≤ z ∧ z ≤ 127) :
    ∃ (d' : Nat) (y' z' q : Int), Qs.ack u (nseg b : Int) d y z seq size = (⟨u, (d' : Int), y', z'⟩, q) ∧ Sd.ack ⟨z, y, b, (d : Int)⟩ seq size = (⟨z', y', b, (d' : Int)⟩, q) ∧ 0 ≤ y' ∧ d' ≤ nseg b ∧ (d' : Int) + y' ≤ nseg b ∧ 1 ≤ z' ∧ z' ≤ 127 := by
  unfold Qs.ack Sd.ack
  by_cases q1 : (d : Int) = (nseg b : Int)
  · exact ⟨d, y, z, _, if_pos q1, if_pos q1, hy, hd, hdy, hz⟩
  rw [if_neg q1]
  by_cases q2 : seq < 0 ∨ y < seq
  · exact ⟨d, y, z, _, if_pos q2, by rw [if_neg q1, if_pos q2], hy, hd, hdy, hz⟩
  rw [if_neg q2]
  by_cases q3 : mayN size = false
  · exact ⟨d, y, z, _, if_pos ((may_iff size).1 q3), by rw [if_neg q1, if_neg q2, if_pos q3], hy, hd, hdy, hz⟩
  have q3' : ¬ (size < 1 ∨ 127 < size) := fun h => q3 ((may_iff size).2 h)
  have e : ((d + seq.toNat : Nat) : Int) = (d : Int) + seq := by omega
  refine ⟨d + seq.toNat, 0, size, 0, ?_, ?_, by omega, by omega, by omega, by omega, by omega⟩
  · rw [if_neg q3', e]
  · rw [if_neg q1, if_neg q2, if_neg q3, e]
theorem segLs_zero (b : List Int) (d : Nat) : segLs b d 0 = [] := rfl

set_option maxHeartbeats 8000000 in
theorem csends_c (ub : Value) (b : List Int) (kb : Int) (A : Option Addr) (bl o c : Nat) (l : List Da) (w : World) (hub : Bs w ub b) (hl : RowOf Da.cells 3 w A bl o l) (hlc : l.length ≤ c) :
    Calls Try.prog 3 #[ub, .int .i64 kb, .slice A l.length c] w fun e w' => e = .returned (.bool true) ∧ Ext w w' := by
  obtain ⟨A1, cu, rfl⟩ := hub.form
  have LV := hid (fun w => clive_c w)
  have HUB := hid hub
  by_cases hok : mayN kb = true ∧ b.length ≤ 64
  case neg =>
    have hno : mayN kb = false ∨ 64 < b.length := by
      by_cases h : mayN kb = true
      · exact .inr (by have : ¬ b.length ≤ 64 := fun h2 => hok ⟨h, h2⟩; omega)
      · exact .inl (by simpa using h)
    have NS := hid (newsend_no _ b kb w hub hno)
    have hcs : decide (kb < 1) = true ∨ (decide (kb < 1) = false ∧ decide (127 < kb) = true) ∨ (decide (kb < 1) = false ∧ decide (127 < kb) = false ∧ decide (64 < (b.length : Int)) = true) := by
      rcases hno with h | h
      · rcases (may_iff kb).1 h with h | h
        · exact .inl (by simpa using h)
        · exact .inr (.inl ⟨by simp; omega, by simpa using h⟩)
      · by_cases h1 : kb < 1
        · exact .inl (by simpa using h1)
        · by_cases h2 : 127 < kb
          · exact .inr (.inl ⟨by simpa using h1, by simpa using h2⟩)
          · exact .inr (.inr ⟨by simpa using h1, by simpa using h2, by simp; omega⟩)
    clear hok hno hub hl
    rcases hcs with e1 | ⟨e1, e2⟩ | ⟨e1, e2, e3⟩
    all_goals
      go_enter Try.func3, Try.ntmps3
      go_wp2_with fail
      (with_reducible refine (NS.out).mono ?_); rintro e w1 ⟨rfl, rfl⟩
      go_wp2_with fail
      (with_reducible refine (LV.out _).mono ?_); rintro e w2 ⟨rfl, k2⟩
      have K2 := hid k2
      clear k2
      go_wp2_with fail
      (with_reducible refine (done_nil _).mono ?_); rintro e w3 ⟨rfl, k3⟩
      have K3 := hid (K2.out.trans k3)
      clear k3
      go_wp2_with fail
      (with_reducible refine (sblock_nil _).mono ?_); rintro e w4 ⟨rfl, k4⟩
      have K4 := hid (K3.out.trans k4)
      clear k4
      go_wp2_with fail
      (with_reducible refine (sack_nil _ _ _).mono ?_); rintro e w5 ⟨rfl, k5⟩
      have K5 := hid (K4.out.trans k5)
      clear k5
      go_wp2_with fail
      go_ret
      exact ⟨rfl, K5.out⟩
  obtain ⟨hmay, hlen⟩ := hok
  have HLEN := hid hlen
  have NS := hid (newsend_c _ b kb w hub hmay hlen)
  have hk1 : 1 ≤ kb ∧ kb ≤ 127 := by
    unfold mayN at hmay
    simp only [Bool.and_eq_true, decide_eq_true_iff] at hmay
    exact hmay
  have e1 : decide (kb < 1) = false := by simp; omega
  have e2 : decide (127 < kb) = false := by simp; omega
  have e3 : decide (64 < (b.length : Int)) = false := by simp; omega
  have hl0 := hl.1
  have hN : 1 ≤ nseg b ∧ nseg b ≤ 10 := by unfold nseg; omega
  clear hub hmay hlen
  go_enter Try.func3, Try.ntmps3
  go_wp2_with fail
  (with_reducible refine (NS.out).mono ?_); rintro e w1 ⟨sb, v, rfl, hs, hsb, k1⟩
  have st1 := stQ_new w1 A1 b.length cu 0 0 kb
  have E1 : Ext w1 (w1.alloc (.cells (Qs.cells ⟨.slice A1 b.length cu, 0, 0, kb⟩) QT)) := (by repeat (first | with_reducible exact Ext.refl _ | with_reducible assumption | with_reducible apply Ext.alloc | with_reducible apply Ext.drew | with_reducible apply Ext.drewN | (with_reducible refine Ext.set' ?_ (by first | omega | (simp only [World.size_alloc, World.size_setCell]; omega))) | (with_reducible refine Ext.trans ?_ (by with_reducible assumption)) | (with_reducible refine Ext.only ?_ (by with_reducible assumption) (by omega))))
  have HS0 := hid ((⟨hs.ext E1, Blk.new w1 _ QT, k1.trans E1, hsb, k1.le⟩ : SS w sb w1.heap.size v (.slice A1 b.length cu) b 0 0 kb (w1.alloc (.cells (Qs.cells ⟨.slice A1 b.length cu, 0, 0, kb⟩) QT))))
  obtain ⟨rb, hrb⟩ : ∃ q, Is w1.heap.size q := ⟨_, Is.refl _⟩
  rw [hrb.eq] at HS0
  clear hs hsb k1 NS E1
  go_wp2_with fail
  rw [hrb.eq]
  go_loopg [10] 30 (fun gg u10 wr => ∃ (i d : Nat) (y z : Int), i + gg = 30 ∧ i ≤ l.length ∧ u10 = .int .i64 (i : Int) ∧ Hid (0 ≤ y ∧ d ≤ nseg b ∧ (d : Int) + y ≤ nseg b ∧ 1 ≤ z ∧ z ≤ 127) ∧ Hid (SS w sb rb v (.slice A1 b.length cu) b d y z wr))
  case atStart => exact ⟨0, 0, 0, kb, rfl, by omega, rfl, hid ⟨by omega, by omega, by omega, hk1⟩, HS0⟩
  case round =>
    clear HS0
    obtain ⟨i, d, y, z, hig, hil, rfl, HI, HS⟩ := hrel
    by_cases hlt : i < l.length ∧ i < 30
    · obtain ⟨hlt, h30⟩ := hlt
      have e1 : decide ((i : Int) < (l.length : Int)) = true := by simpa using hlt
      have e2 : decide ((i : Int) < 30) = true := by simp; omega
      have i0 : (0 : Int) ≤ (i : Int) := by omega
      have i1 : (i : Int) < (l.length : Int) := by omega
      obtain ⟨rfl, hcell⟩ := hl.at HS.out.ext hlt
      have HR := hid (hl.at (Ext.refl w) hlt).2
      generalize l[i] = a at *
      have c0 : wr.cell? ⟨bl, o + i * 3, none⟩ = some (.bool a.ask) := hcell 0 _ rfl
      have C1 := hid (fun (w' : World) (q : Ext w w') => (show w'.cell? ⟨bl, o + i * 3 + 1, none⟩ = some (.int .i64 a.seq) from q.cell (HR.out 1 _ rfl)))
      have C2 := hid (fun (w' : World) (q : Ext w w') => (show w'.cell? ⟨bl, o + i * 3 + 2, none⟩ = some (.int .i64 a.blk) from q.cell (HR.out 2 _ rfl)))
      clear hcell
      obtain ⟨q, hq⟩ : ∃ q, a.ask = q := ⟨_, rfl⟩
      rw [hq] at c0
      clear hq
      go_upto_if 71 with fail
      go_cut [10] from 57 to 115 (fun u10 wx => u10 = .int .i64 (i : Int) ∧ ∃ (d' : Nat) (y' z' : Int), Hid (0 ≤ y' ∧ d' ≤ nseg b ∧ (d' : Int) + y' ≤ nseg b ∧ 1 ≤ z' ∧ z' ≤ 127) ∧ Hid (SS w sb rb v (.slice A1 b.length cu) b d' y' z' wx))
      case first =>
        cases q
        · obtain ⟨d', y', z', r', hqa, hsa, hy', hd', hdy', hz'⟩ := acks_same (.slice A1 b.length cu) b d y z a.seq a.blk HI.out.1 HI.out.2.1 HI.out.2.2.1 HI.out.2.2.2
          have HI' := hid (And.intro hy' (And.intro hd' (And.intro hdy' hz')))
          have D : ∀ p : Addr, wr.drew.cell? p = wr.cell? p := fun p => rfl
          have c1 := C1.out wr HS.out.ext
          have c2 := C2.out wr HS.out.ext
          have lq : (ldQ (.pointer (some ⟨rb, 0, none⟩))).run Try.prog wr.drew = .ok (Qs.val ⟨.slice A1 b.length cu, (d : Int), y, z⟩) wr.drew := ldQ_blk HS.out.rq.drew
          have RK := hid (rack_c (.slice A1 b.length cu) b (d : Int) y z a.seq a.blk wr.drew (HUB.out.ext HS.out.ext.drew) HLEN.out ⟨by omega, by have := HI.out; omega⟩ (by have := HI.out; omega))
          rw [hqa] at RK
          have SD := hid (HS.out.more (show Ext wr wr.drew from (Ext.refl wr).drew))
          have STF := hid (fun w4 (k4 : Ext wr.drew w4) => (by
            have hm4 := SD.out.more k4
            have o4 := putQ_only w4 rb (Qs.cells ⟨.slice A1 b.length cu, (d' : Int), y', z'⟩)
            exact ⟨stQ_put w4 rb ⟨.slice A1 b.length cu, (d' : Int), y', z'⟩ _ A1 _ cu rfl hm4.rq, hm4.both o4 (putQ_blk ⟨.slice A1 b.length cu, (d' : Int), y', z'⟩ hm4.rq)⟩ :
            (stQ (.pointer (some ⟨rb, 0, none⟩)) (Qs.val ⟨.slice A1 b.length cu, (d' : Int), y', z'⟩)).run Try.prog w4 = .ok () (w4.setRow rb (Qs.cells ⟨.slice A1 b.length cu, (d' : Int), y', z'⟩)) ∧ BothP w sb rb v (.slice A1 b.length cu) b d y z d' y' z' (w4.setRow rb (Qs.cells ⟨.slice A1 b.length cu, (d' : Int), y', z'⟩))))
          clear SD hqa hy' hd' hdy' hz'
          go_wp2_with fail
          go_region_with (go_at_call 13; (with_reducible refine (RK.out).mono ?_); rintro e w4 ⟨rfl, k4⟩; obtain ⟨st4, q1⟩ := STF.out w4 k4; have HB4 := hid q1; clear q1 k4)
          all_goals
            generalize w4.setRow rb (Qs.cells ⟨.slice A1 b.length cu, (d' : Int), y', z'⟩) = w5 at *
            have HSD5 := hid (HB4.out.1.ext (show Ext w5 w5.drew from (Ext.refl w5).drew))
            have D5 : ∀ p : Addr, w5.drew.cell? p = w5.cell? p := fun p => rfl
            have c15 := C1.out w5 HB4.out.2.1
            have c25 := C2.out w5 HB4.out.2.1
            have SK := hid (sack_c sb v _ a.seq a.blk w5.drew HSD5.out (by show y ≤ 1000; have := HI.out; omega) ⟨by show (0 : Int) ≤ (d : Int); omega, by show (d : Int) ≤ 1000; have := HI.out; omega⟩)
            rw [hsa] at SK
            have f1 : (r' != r') = false := by simp
            have f1' : (r' == r') = true := by simp
            clear STF RK D lq st4 c1 c2
            go_wp2_with fail
            go_region_with (go_at_call 10; (with_reducible refine (SK.out).mono ?_); rintro e w6 ⟨rfl, hs6, o6⟩; have HS6 := hid (HB4.out.2.2 w6 ((Only.of_ext ((Ext.refl w5).drew)).trans o6) hs6); clear hs6 o6)
            all_goals
              go_wp2_with fail
              go_meet
              case rel => exact ⟨rfl, d', y', z', HI', HS6⟩
        · obtain ⟨n, hn⟩ : ∃ n : Nat, min z ((nseg b : Int) - d) = (n : Int) := ⟨(min z ((nseg b : Int) - d)).toNat, by have := HI.out; omega⟩
          have lq : (ldQ (.pointer (some ⟨rb, 0, none⟩))).run Try.prog wr = .ok (Qs.val ⟨.slice A1 b.length cu, (d : Int), y, z⟩) wr := ldQ_blk HS.out.rq
          have RB := hid (rblock_c (.slice A1 b.length cu) b d n y z wr (HUB.out.ext HS.out.ext) HLEN.out HI.out.2.1 HI.out.2.2.2 hn)
          have hn1 := hid (show (n : Int) ≤ z ∧ d + n ≤ nseg b ∧ (d < nseg b → 1 ≤ n) from by have := HI.out; omega)
          obtain ⟨y2, hy2⟩ : ∃ y2 : Int, Is (if n = 0 then y else (n : Int)) y2 := ⟨_, Is.refl _⟩
          rw [hy2.eq] at RB
          have STF := hid (fun w4 (k4 : Ext wr w4) => (by
            have hm4 := HS.out.more k4
            have o4 := putQ_only w4 rb (Qs.cells ⟨.slice A1 b.length cu, (d : Int), y2, z⟩)
            exact ⟨stQ_put w4 rb ⟨.slice A1 b.length cu, (d : Int), y2, z⟩ _ A1 _ cu rfl hm4.rq, fun (x : Value) (hx : OwnR lnLay w4 0 x (segLs b d n)) => own_only' hx hm4.rq (by decide) o4, hm4.both o4 (putQ_blk ⟨.slice A1 b.length cu, (d : Int), y2, z⟩ hm4.rq)⟩ :
            (stQ (.pointer (some ⟨rb, 0, none⟩)) (Qs.val ⟨.slice A1 b.length cu, (d : Int), y2, z⟩)).run Try.prog w4 = .ok () (w4.setRow rb (Qs.cells ⟨.slice A1 b.length cu, (d : Int), y2, z⟩)) ∧ (∀ x, OwnR lnLay w4 0 x (segLs b d n) → OwnR lnLay (w4.setRow rb (Qs.cells ⟨.slice A1 b.length cu, (d : Int), y2, z⟩)) 0 x (segLs b d n)) ∧ BothP w sb rb v (.slice A1 b.length cu) b d y z d y2 z (w4.setRow rb (Qs.cells ⟨.slice A1 b.length cu, (d : Int), y2, z⟩))))
          go_wp2_with fail
          (with_reducible refine (RB.out).mono ?_); rintro e w4 ⟨x4, rfl, ho4, k4⟩
          obtain ⟨st4, q1, q2⟩ := STF.out w4 k4
          have HX4 := hid (q1 x4 (ho4.lower (Nat.zero_le _)))
          have HB4 := hid q2
          clear q1 q2 k4 ho4 STF RB lq
          obtain ⟨w5, hw5⟩ : ∃ w5, Is (w4.setRow rb (Qs.cells ⟨.slice A1 b.length cu, (d : Int), y2, z⟩)) w5 := ⟨_, Is.refl _⟩
          rw [hw5.eq] at HX4 HB4 st4
          obtain ⟨A4, c4, hx4⟩ := HX4.out.form
          rw [segLs_len] at hx4
          subst hx4
          by_cases hdN : d = nseg b
          · have hn0 : n = 0 := by have := hn1.out; omega
            have SBK := hid (sblock_end sb v _ w5 HB4.out.1 (by show (d : Int) = (nseg b : Int); omega))
            have hyy : y2 = y := by rw [← hy2.eq, if_pos hn0]
            subst hn0
            subst hyy
            clear hdN
            rw [segLs_zero] at HX4
            go_wp2_with fail
            (with_reducible refine (SBK.out).mono ?_); rintro e w6 ⟨rfl, k6⟩
            have SM := hid (same_c _ _ [] w6 (OwnR.nil w6 0) (HX4.out.below k6) (by simp))
            have HS6 := hid (HB4.out.2.2 w6 (Only.of_ext k6) (HB4.out.1.ext k6))
            clear k6
            go_wp2_with fail
            (with_reducible refine (SM.out).mono ?_); rintro e w7 ⟨rfl, k7⟩
            have HS7 := hid (HS6.out.more k7)
            clear k7
            go_wp2_with fail
            go_meet
            case rel => exact ⟨rfl, d, y2, z, HI, HS7⟩
          · have hd1 : d < nseg b := by have := HI.out; omega
            have SBK := hid (sblock_c sb v _ d n w5 HB4.out.1 rfl hd1 ⟨by have := HI.out; exact this.2.2.2.1, by have := HI.out; exact this.2.2.2.2⟩ hn)
            have hyy : y2 = (n : Int) := by rw [← hy2.eq, if_neg (by have := hn1.out.2.2 hd1; omega)]
            have HI' := hid (show 0 ≤ y2 ∧ d ≤ nseg b ∧ (d : Int) + y2 ≤ nseg b ∧ 1 ≤ z ∧ z ≤ 127 from by have := HI.out; have := hn1.out; omega)
            rw [← hyy] at SBK
            clear hyy
            go_wp2_with fail
            (with_reducible refine (SBK.out).mono ?_); rintro e w6 ⟨x6, rfl, ho6, hs6, o6⟩
            have HX6 := hid (own_only'' HX4.out HB4.out.1.1 (by decide) o6)
            have SM := hid (same_c _ _ (segLs b d n) w6 (ho6.lower (Nat.zero_le _)) HX6.out (by rw [segLs_len]; have := hn1.out; omega))
            have HS6 := hid (HB4.out.2.2 w6 o6 hs6)
            clear ho6 hs6 o6
            go_wp2_with fail
            (with_reducible refine (SM.out).mono ?_); rintro e w7 ⟨rfl, k7⟩
            have HS7 := hid (HS6.out.more k7)
            clear k7
            go_wp2_with fail
            go_meet
            case rel => exact ⟨rfl, d, y2, z, HI', HS7⟩
      case rest =>
        obtain ⟨rfl, d5, y5, z5, HI5, HS5⟩ := hcut
        obtain ⟨w5, hw5⟩ : ∃ w5, w5 = wc := ⟨_, rfl⟩
        subst hw5
        obtain ⟨q5, hq5⟩ : ∃ q, Is ((d5 : Int) == (nseg b : Int)) q := ⟨_, Is.refl _⟩
        have CD := hid (fun x : After w5 => done_c sb v _ x.wd (HS5.out.sd.ext x.ext))
        change Hid (∀ x : After w5, Calls Try.prog _ _ x.wd fun e w' => e = .returned (.bool ((d5 : Int) == (nseg b : Int))) ∧ Ext x.wd w') at CD
        have RD := hid (fun x : After w5 => rdone_c (.slice A1 b.length cu) b (d5 : Int) y5 z5 x.wd (HUB.out.ext (HS5.out.ext.trans x.ext)) HLEN.out)
        rw [hq5.eq] at CD RD
        have lq5 : ∀ x : After w5, (ldQ (.pointer (some ⟨rb, 0, none⟩))).run Try.prog x.wd = .ok (Qs.val ⟨.slice A1 b.length cu, (d5 : Int), y5, z5⟩) x.wd := fun x => ldQ_blk (x.ext.blk HS5.out.rq)
        have f1 : (q5 != q5) = false := by simp
        have f1' : (q5 == q5) = true := by simp
        clear c0 HS HI hq5
        go_wp2_with fail
        refine wp_region_go (sp := spOf (R := Ext) [(1, Told.val (R := Ext) (.bool q5)), (3, Told.val (R := Ext) (.bool q5))]) (C := fun w' => ∃ n : After w5, w' = n.wd) (R := Ext) (by kernel_rfl) (by kernel_rfl) (spOf_mono _) (After.drew _) ?_
        repeat (first | ((with_reducible refine go_nil ?_)) | (refine go_skip' (by rfl) ?_; (try simp only [Act.put, List.setIfInBounds_toArray, List.set_cons_zero, List.set_cons_succ])) | (refine go_quiet' (by rfl) (by rfl) (by rfl) ?_; intro K hK; go_big_quiet_op; go_big_quiet_on) | (refine go_nilcheck _ _ rfl rfl (by rfl) (by rfl) ?_; (try simp only [Act.put, List.setIfInBounds_toArray, List.set_cons_zero, List.set_cons_succ])))
        (refine go_act (by rfl) (by rfl) ?_ ?_; (focus (intro w' hC hM; obtain ⟨x, rfl⟩ := hC; go_simp; (with_reducible refine Calls.told (CD.out x)); done)); intro v hv; obtain ⟨_, _, hv, _⟩ := hv; obtain rfl := hv; (try simp only [Act.put, List.setIfInBounds_toArray, List.set_cons_zero, List.set_cons_succ]))
        repeat (first | ((with_reducible refine go_nil ?_)) | (refine go_skip' (by rfl) ?_; (try simp only [Act.put, List.setIfInBounds_toArray, List.set_cons_zero, List.set_cons_succ])) | (refine go_quiet' (by rfl) (by rfl) (by rfl) ?_; intro K hK; go_big_quiet_op; go_big_quiet_on) | (refine go_nilcheck _ _ rfl rfl (by rfl) (by rfl) ?_; (try simp only [Act.put, List.setIfInBounds_toArray, List.set_cons_zero, List.set_cons_succ])))
        (refine go_act (by rfl) (by rfl) ?_ ?_; (focus (intro w' hC hM; obtain ⟨x, rfl⟩ := hC; go_simp; (with_reducible refine Calls.told (RD.out x)); done)); intro v hv; obtain ⟨_, _, hv, _⟩ := hv; obtain rfl := hv; (try simp only [Act.put, List.setIfInBounds_toArray, List.set_cons_zero, List.set_cons_succ]))
        repeat (first | ((with_reducible refine go_nil ?_)) | (refine go_skip' (by rfl) ?_; (try simp only [Act.put, List.setIfInBounds_toArray, List.set_cons_zero, List.set_cons_succ])) | (refine go_quiet' (by rfl) (by rfl) (by rfl) ?_; intro K hK; go_big_quiet_op; go_big_quiet_on) | (refine go_nilcheck _ _ rfl rfl (by rfl) (by rfl) ?_; (try simp only [Act.put, List.setIfInBounds_toArray, List.set_cons_zero, List.set_cons_succ])))
        intro wz hC hall
        obtain ⟨x, rfl⟩ := hC
        have HSZ := hid (HS5.out.more x.ext)
        clear hall CD RD lq5
        go_wp2_with fail
        go_roundg (gk - 1)
        case rel => exact ⟨i + 1, d5, y5, z5, by omega, by omega, by go_num, HI5, HSZ⟩
        case measure => omega
    · by_cases hi : i = l.length
      · subst hi
        have e1 : decide ((l.length : Int) < (l.length : Int)) = false := by simp
        have HSM := HS.out
        have SE := hid (fun w' (k : Ext wr w') => send_c sb v _ w' (HSM.sd.ext k))
        change Hid (∀ w' (k : Ext wr w'), Calls Try.prog _ _ w' fun e w'' => e = .returned (.tuple #[.int .i64 ((nseg b : Int) * 7 - b.length), .int .i64 (crc16V b)]) ∧ Ext w' w'') at SE
        have RE := hid (fun w' (k : Ext wr w') => rend_c (.slice A1 b.length cu) b (d : Int) y z w' (HUB.out.ext (HSM.ext.trans k)) HLEN.out)
        have LQ := hid (fun w' (k : Ext wr w') => ldQ_blk (k.blk HSM.rq))
        have CR := hid (fun w' (k : Ext w w') => crc_c _ b w' (HUB.out.ext k))
        obtain ⟨R, hR⟩ : ∃ R, Is (crc16V b) R := ⟨_, Is.refl _⟩
        have RC := hid (fun w' (k : Ext w w') => (by
          obtain ⟨A', bl', o', c', he, hlc', hr', hb'⟩ := HUB.out.ext k
          injection he with e1 _ e3
          subst e1 e3
          exact (rcrc16_any A1 bl' o' cu b.length b w' (hid hr') (hid rfl) hlc' (by have := HLEN.out; omega) (hid hb') R (hid hR.eq)).mono (fun e w'' h => ⟨h.1, h.2⟩) :
          Calls Try.prog 18 #[.slice A1 b.length cu] w' fun e w'' => e = .returned (.int .i64 R) ∧ Ext w' w''))
        rw [hR.eq] at SE RE CR
        obtain ⟨M, hM⟩ : ∃ M : Int, Is ((nseg b : Int) * 7 - b.length) M := ⟨_, Is.refl _⟩
        rw [hM.eq] at SE RE
        have f1 : (M == M) = true := by simp
        have f2 : (R == R) = true := by simp
        have K := hid HSM.ext
        clear hlt HSM HS hR hM
        go_wp2_with fail
        (with_reducible refine (SE.out _ (Ext.refl _)).mono ?_); rintro e w3 ⟨rfl, k3⟩
        have K3 := hid k3
        have lq3 := LQ.out w3 k3
        clear k3
        go_wp2_with fail
        (with_reducible refine (RE.out _ K3.out).mono ?_); rintro e w4 ⟨rfl, k4⟩
        have K4 := hid (K.out.trans (K3.out.trans k4))
        clear k4 lq3
        go_wp2_with fail
        (with_reducible refine (LV.out _).mono ?_); rintro e w5 ⟨rfl, k5⟩
        have K5 := hid (K4.out.trans k5)
        clear k5
        go_wp2_with fail
        (with_reducible refine (CR.out _ K5.out).mono ?_); rintro e w6 ⟨rfl, k6⟩
        have K6 := hid (K5.out.trans k6)
        clear k6
        go_wp2_with fail
        (with_reducible refine (RC.out _ K6.out).mono ?_); rintro e w7 ⟨rfl, k7⟩
        have K7 := hid (K6.out.trans k7)
        clear k7
        go_wp2_with fail
        go_ret
        exact ⟨rfl, K7.out⟩
      · obtain rfl : i = 30 := by omega
        have d1 : (30 : Int) < (l.length : Int) := by omega
        have d' : decide ((30 : Int) < (l.length : Int)) = true := by simpa using d1
        have HSM := HS.out
        have SE := hid (fun w' (k : Ext wr w') => send_c sb v _ w' (HSM.sd.ext k))
        change Hid (∀ w' (k : Ext wr w'), Calls Try.prog _ _ w' fun e w'' => e = .returned (.tuple #[.int .i64 ((nseg b : Int) * 7 - b.length), .int .i64 (crc16V b)]) ∧ Ext w' w'') at SE
        have RE := hid (fun w' (k : Ext wr w') => rend_c (.slice A1 b.length cu) b (d : Int) y z w' (HUB.out.ext (HSM.ext.trans k)) HLEN.out)
        have LQ := hid (fun w' (k : Ext wr w') => ldQ_blk (k.blk HSM.rq))
        have CR := hid (fun w' (k : Ext w w') => crc_c _ b w' (HUB.out.ext k))
        obtain ⟨R, hR⟩ : ∃ R, Is (crc16V b) R := ⟨_, Is.refl _⟩
        have RC := hid (fun w' (k : Ext w w') => (by
          obtain ⟨A', bl', o', c', he, hlc', hr', hb'⟩ := HUB.out.ext k
          injection he with e1 _ e3
          subst e1 e3
          exact (rcrc16_any A1 bl' o' cu b.length b w' (hid hr') (hid rfl) hlc' (by have := HLEN.out; omega) (hid hb') R (hid hR.eq)).mono (fun e w'' h => ⟨h.1, h.2⟩) :
          Calls Try.prog 18 #[.slice A1 b.length cu] w' fun e w'' => e = .returned (.int .i64 R) ∧ Ext w' w''))
        rw [hR.eq] at SE RE CR
        obtain ⟨M, hM⟩ : ∃ M : Int, Is ((nseg b : Int) * 7 - b.length) M := ⟨_, Is.refl _⟩
        rw [hM.eq] at SE RE
        have f1 : (M == M) = true := by simp
        have f2 : (R == R) = true := by simp
        have K := hid HSM.ext
        clear hlt HSM HS hR hM
        go_wp2_with fail
        (with_reducible refine (SE.out _ (Ext.refl _)).mono ?_); rintro e w3 ⟨rfl, k3⟩
        have K3 := hid k3
        have lq3 := LQ.out w3 k3
        clear k3
        go_wp2_with fail
        (with_reducible refine (RE.out _ K3.out).mono ?_); rintro e w4 ⟨rfl, k4⟩
        have K4 := hid (K.out.trans (K3.out.trans k4))
        clear k4 lq3
        go_wp2_with fail
        (with_reducible refine (LV.out _).mono ?_); rintro e w5 ⟨rfl, k5⟩
        have K5 := hid (K4.out.trans k5)
        clear k5
        go_wp2_with fail
        (with_reducible refine (CR.out _ K5.out).mono ?_); rintro e w6 ⟨rfl, k6⟩
        have K6 := hid (K5.out.trans k6)
        clear k6
        go_wp2_with fail
        (with_reducible refine (RC.out _ K6.out).mono ?_); rintro e w7 ⟨rfl, k7⟩
        have K7 := hid (K6.out.trans k7)
        clear k7
        go_wp2_with fail
        go_ret
        exact ⟨rfl, K7.out⟩

theorem csends_entry (v0 v1 v2 : Value) (W : World) {base : Nat} (h0 : Rd Try.prog W 22 v0.cells.toList) (o0 : Value.okWide Try.prog W .any base 22 v0)
    (h1 : Rd Try.prog W 3 v1.cells.toList) (o1 : Value.okWide Try.prog W .any base 3 v1)
    (h2 : Rd Try.prog W 23 v2.cells.toList) (o2 : Value.okWide Try.prog W .any base 23 v2) :
    Calls Try.prog 3 #[v0, v1, v2] W fun e w' => e = .returned (.bool true) ∧ Below W.heap.size W w' := by
  obtain ⟨A, bl, o, b, cap, rfl, hlc, _, _, _, hr, hb⟩ := opn_bytes Try.underlying22 Try.underlying5 (by kernel_rfl) (by kernel_rfl) h0 o0
  obtain ⟨k, rfl, hk⟩ := opn_int Try.underlying3 h1 o1
  obtain ⟨A2, bl2, o2', l, c, rfl, hlc2, _, _, _, hrow, _⟩ := opn_rows Da.cells (fun _ => True) 3 (by decide) Try.underlying23 (by kernel_rfl) dec_da h2 o2
  exact csends_c _ b k A2 bl2 o2' c l W (Bs.row hlc hr hb) hrow hlc2

end Go.Proofs.Ytpdomjinhbnmfaa
