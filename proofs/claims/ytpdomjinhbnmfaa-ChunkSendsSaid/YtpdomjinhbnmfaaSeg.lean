/- Segments' lines: Seg, Unseg. -/
import Derived.Test.YtpdomjinhbnmfaaApp
set_option linter.unusedSimpArgs false
set_option linter.unusedVariables false
set_option linter.unnecessarySimpa false
set_option maxRecDepth 100000
namespace Go.Proofs.Ytpdomjinhbnmfaa
open Go.RowKit Go.Proofs.YtpdomjinhbnmfaaW.PrintWords
attribute [local go_sem] max2_max min2_min max_of_two min_of_two alL_v bdL_none bdL_one bxL_ln lnguard_eq lnguard_ne lnbin_eq lnbin_ne
attribute [local go_sem ↓] ldL_in bxL_in stL_in alL_in bdL_in cvS_in
attribute [local go_sem ↓] ap8_in

/-- The line of a segment. -/
def lnOf (k : Int) (d : List Int) : Ln := ⟨k :: (d ++ List.replicate 7 0).take 7, by simp⟩
def segK (seq : Int) (last : Bool) : Int := seq + (if last then 128 else 0)
theorem flag_c (q : Bool) (n : Int) (w : World) : Calls Try.prog 37 #[.bool q, .int .i64 n] w fun e w' => e = .returned (.int .i64 (if q then n else 0)) ∧ w = w' := by
  cases q
  · go_enter Try.func37, Try.ntmps37
    go_wp2_with fail
    go_ret
    exact ⟨rfl, rfl⟩
  · go_enter Try.func37, Try.ntmps37
    go_wp2_with fail
    go_ret
    exact ⟨rfl, rfl⟩
theorem splice_seg (k : Int) (d : List Int) (h : d.length ≤ 7) : (splice (Value.int .u8 k :: (List.replicate 7 (Value.int .u8 0))) 1 (d.map (Value.int .u8))).toArray = (lnOf k d).cells := by
  unfold splice lnOf Ln.cells
  congr 1
  simp only [List.take_succ_cons, List.take_zero, List.length_map, List.map_cons, List.map_take, List.map_append, List.map_replicate, List.singleton_append, List.cons.injEq, true_and]
  rw [show 1 + d.length = d.length + 1 by omega, List.drop_succ_cons, List.take_append, List.take_of_length_le (by simpa using h)]
  simp only [List.drop_replicate, List.take_replicate, List.length_map]
  rw [Nat.min_eq_left (by omega)]

/-- 'copy(l[1:], b)' into a line. -/
theorem copy_into {w : World} {g : Nat} {k : Int} {A : Option Addr} {bl o : Nat} {d : List Int} (hb : Blk w g (Value.int .u8 k :: List.replicate 7 (Value.int .u8 0)).toArray LT) (hr : Row8 w A bl o d) (hd : d.length ≤ 7) (c : Nat) :
    ∃ w3, (Builtin.copy_ #[S8, S8] 3 #[.slice (some ⟨g, 1, none⟩) 7 7, .slice A d.length c]).run Try.prog w = .ok (.int .i64 d.length) w3 ∧ Blk w3 g (splice (Value.int .u8 k :: List.replicate 7 (Value.int .u8 0)) 1 (d.map (Value.int .u8))).toArray LT ∧ Only g w w3 := by
  by_cases h0 : d.length = 0
  · obtain rfl : d = [] := List.eq_nil_of_length_eq_zero h0
    exact ⟨w, run_copy_none (P := Try.prog) w S8 S8 3 U8 (some ⟨g, 1, none⟩) A 7 7 0 c Try.underlying22 (by kernel_rfl) rfl, by simpa [splice] using hb, Only.refl _ _⟩
  · obtain ⟨rfl, _⟩ := hr.2.1 (by omega)
    have h := run_copy_row (P := Try.prog) w S8 S8 3 U8 g 1 7 7 ⟨bl, o, none⟩ d.length c _ LT (d.map (Value.int .u8)) Try.underlying22 (by kernel_rfl) hb (by rw [List.length_map]; exact (Nat.min_eq_left hd).symm) (fun j v hv => by
      rw [List.getElem?_map] at hv
      obtain ⟨x, hx, rfl⟩ := Option.map_eq_some_iff.1 hv
      have hj := (List.getElem?_eq_some_iff.1 hx).1
      rw [Go.Proofs.Ytpdomjinhbnmfaa.add_plain, hr.2.2 j hj, List.getD_eq_getElem?_getD, hx]
      rfl) (by rw [List.length_map]; simp; omega) (fun v hv => by obtain ⟨x, _, rfl⟩ := List.mem_map.1 hv; rfl)
    rw [List.length_map] at h
    refine ⟨_, h, ?_, ⟨rfl, rfl, rfl, by simp [World.setRow], fun k _ hne => setRow_other w g k _ hne⟩⟩
    refine (setRow_heap w g _ _ LT _ hb).trans ?_
    congr 2
    unfold splice
    simp only [List.length_map, List.append_assoc]

set_option maxHeartbeats 2000000 in
theorem seg_c (seq : Int) (q : Bool) (u : Value) (d : List Int) (w : World) (h0 : 1 ≤ seq) (h1 : seq ≤ 127) (hu : Bs w u d) (hd : d.length ≤ 7) :
    Calls Try.prog 28 #[.int .i64 seq, .bool q, u] w fun e w' => e = .returned (.tuple #[(lnOf (segK seq q) d).val, .int .i64 0]) ∧ Ext w w' := by
  obtain ⟨A, bl, o, c, rfl, hlc, hrow, hb⟩ := hu
  have e1 : decide (seq < 1) = false := by simp; omega
  have e2 : decide (127 < seq) = false := by simp; omega
  have e3 : decide (7 < (d.length : Int)) = false := by simp; omega
  have hk : segK seq q = seq + (if q then 128 else 0) := rfl
  obtain ⟨f, hf⟩ : ∃ f : Int, (if q then (128 : Int) else 0) = f := ⟨_, rfl⟩
  have hf0 : f = 0 ∨ f = 128 := by cases q <;> simp at hf <;> omega
  have FL := hid (fun w => flag_c q 128 w)
  rw [hf] at FL hk
  have hw1 : IntKind.i64.wrap (seq + f) = seq + f := IntWalk.i64_in _ (by omega)
  have hw2 : IntKind.u8.wrap (seq + f) = seq + f := by rw [IntKind.wrap_u8']; omega
  rw [hk]
  have K0 : Ext w ((w.alloc (.cells Ln.zero.cells LT)).alloc (.cells Ln.zero.cells LT)) := (by repeat (first | with_reducible exact Ext.refl _ | with_reducible assumption | with_reducible apply Ext.alloc | with_reducible apply Ext.drew | with_reducible apply Ext.drewN | (with_reducible refine Ext.set' ?_ (by first | omega | (simp only [World.size_alloc, World.size_setCell]; omega))) | (with_reducible refine Ext.trans ?_ (by with_reducible assumption)) | (with_reducible refine Ext.only ?_ (by with_reducible assumption) (by omega))))
  have HB := hid (Blk.new (w.alloc (.cells Ln.zero.cells LT)) Ln.zero.cells LT)
  have HA := hid ((Blk.new w Ln.zero.cells LT).alloc (.cells Ln.zero.cells LT))
  have HROW := hid (And.intro hrow (And.intro hb (And.intro hlc hd)))
  clear hf hk hf0 hrow hb hlc hd
  rw [World.size_alloc] at HB
  go_enter Try.func28, Try.ntmps28
  go_wp2_with fail
  (with_reducible refine (FL.out _).mono ?_); rintro e w1 ⟨rfl, rfl⟩
  generalize ((w.alloc (.cells Ln.zero.cells LT)).alloc (.cells Ln.zero.cells LT)) = w1 at *
  have hl : w.heap.size + 1 < w1.heap.size := HB.out.lt
  have c0 := HB.out.lnat (j := 0) (by omega)
  have z0 := HB.out.free 0
  have K1 := hid (show Ext w (w1.setCell ⟨w.heap.size + 1, 0, none⟩ (.int .u8 (seq + f))) from Ext.set' K0 (by omega))
  have HB1 := hid (HB.out.set 0 (.int .u8 (seq + f)))
  have HA1 := hid (HA.out.kept ((Only.refl (w.heap.size + 1) w1).set 0 (.int .u8 (seq + f))) (by omega))
  have SPL := hid (splice_seg (seq + f) d HROW.out.2.2.2)
  have hsz : w.heap.size ≤ w.heap.size + 1 := Nat.le_succ _
  clear K0 HB HA FL
  obtain ⟨w3, hcp, hg3, k3⟩ := copy_into (w := w1.setCell ⟨w.heap.size + 1, 0, none⟩ (.int .u8 (seq + f))) HB1.out (HROW.out.1.ext K1.out) HROW.out.2.2.2 c
  rw [SPL.out] at hg3
  have hA3 : LB w3 w.heap.size := ⟨_, HA1.out.kept k3 (by omega)⟩
  have K3 := hid (Ext.only K1.out k3 hsz)
  have lf3 := ldL_blk hg3
  have st3 := stL_put w3 w.heap.size (lnOf (seq + f) d) hA3
  have HP := hid (putL_blk (lnOf (seq + f) d) hA3)
  have KP := hid (putL_only w3 w.heap.size (lnOf (seq + f) d))
  clear hg3 hA3 k3
  go_wp2_with fail
  exact bodyPost_ret (res_ln2 (Try.results28) rfl rfl HP.out) rfl ⟨rfl, Ext.only K3.out KP.out (Nat.le_refl _)⟩

theorem u8_split {n : Int} (h0 : 0 ≤ n) (h1 : n ≤ 255) : Go.bits .and .u8 n 127 = n % 128 ∧ ∃ m, Go.bits .and .u8 n 128 = m ∧ (m != 0) = decide (128 ≤ n) := by
  obtain ⟨k, rfl⟩ := Int.eq_ofNat_of_zero_le h0
  have hk : k < 256 := by omega
  have e1 := u8_and_nat k 127 hk (by omega)
  have e2 := u8_and_nat k 128 hk (by omega)
  have a1 : k &&& 127 = k % 128 := Nat.and_two_pow_sub_one_eq_mod k 7
  have a2 : ∀ k : Fin 256, (((k.val &&& 128 : Nat) : Int) != 0) = decide (128 ≤ (k.val : Int)) := by decide
  refine ⟨?_, _, e2, a2 ⟨k, hk⟩⟩
  rw [a1] at e1
  exact e1
theorem line_row {w : World} {g : Nat} {x : Ln} (h : Blk w g x.cells LT) : Row8 w (some ⟨g, 1, none⟩) g 1 (x.l.drop 1) :=
  ⟨by simp [x.h], fun _ => ⟨rfl, h.lt⟩, fun i hi => by
    rw [List.length_drop, x.h] at hi
    rw [h.lnat (j := 1 + i) (by omega)]
    unfold Ln.at
    rw [List.getD_eq_getElem?_getD, List.getD_eq_getElem?_getD, List.getElem?_drop]⟩
set_option maxHeartbeats 2000000 in
theorem unseg_c (c : Ln) (w : World) (hx : Byt c.l) :
    Calls Try.prog 36 #[c.val] w fun e w' => ∃ u, e = .returned (.tuple #[.int .i64 (c.at 0 % 128), .bool (decide (128 ≤ c.at 0)), u]) ∧ Own8 w' w.heap.size u (c.l.drop 1) ∧ Ext w w' := by
  have HB := hid (Blk.new w c.cells LT)
  have K0 : Ext w (w.alloc (.cells c.cells LT)) := (by repeat (first | with_reducible exact Ext.refl _ | with_reducible assumption | with_reducible apply Ext.alloc | with_reducible apply Ext.drew | with_reducible apply Ext.drewN | (with_reducible refine Ext.set' ?_ (by first | omega | (simp only [World.size_alloc, World.size_setCell]; omega))) | (with_reducible refine Ext.trans ?_ (by with_reducible assumption)) | (with_reducible refine Ext.only ?_ (by with_reducible assumption) (by omega))))
  have hb := hx (c.at 0) (by
    show c.l.getD 0 0 ∈ c.l
    rw [getD_at (by rw [c.h]; omega)]
    exact List.getElem_mem _)
  obtain ⟨hand, m, hm, hz⟩ := u8_split hb.1 hb.2
  have hc0 := After.cell (HB.out.lnat (j := 0) (by omega))
  have K0' := hid K0
  have HX := hid hx
  have HROW := hid (line_row HB.out)
  obtain ⟨pb, hpb⟩ : ∃ q, Is w.heap.size q := ⟨_, Is.refl _⟩
  generalize hw1 : (w.alloc (.cells c.cells LT)) = w1 at *
  have hcv : IntKind.i64.wrap (c.at 0 % 128) = c.at 0 % 128 := IntWalk.i64_in _ (by omega)
  obtain ⟨q, hq⟩ : ∃ q, decide (128 ≤ c.at 0) = q := ⟨_, rfl⟩
  obtain ⟨r, hr⟩ : ∃ r, c.at 0 % 128 = r := ⟨_, rfl⟩
  rw [hq] at hz ⊢
  rw [hr] at hand hcv ⊢
  have BS : Hid (∀ y : After w1, Bs y.wd (.slice (some ⟨w.heap.size, 1, none⟩) 7 7) (c.l.drop 1)) := hid (fun y => (Bs.of_row (by simp [c.h]) (Nat.le_refl 7) HROW.out (fun z hz => HX.out z (List.mem_of_mem_drop hz))).ext y.ext)
  have HL := hid (show (List.length ([] : List Int)) + (c.l.drop 1).length ≤ 1000000 by simp [c.h])
  clear hb hq hr hx K0 HB HROW HX
  generalize c.l.drop 1 = d at *
  go_enter Try.func36, Try.ntmps36
  go_wp2_with fail
  generalize c.at 0 = x0 at *
  rw [hpb.eq] at BS hc0 ⊢
  clear hw1
  refine wp_region_go (sp := spOf (R := Ext) [(9, Told.o8 w1.heap.size d)]) (C := fun w' => ∃ n : After w1, w' = n.wd) (R := Ext) (by kernel_rfl) (by kernel_rfl) (spOf_mono _) (After.drew _) ?_
  repeat (first | ((with_reducible refine go_nil ?_)) | (refine go_skip' (by rfl) ?_; (try simp only [Act.put, List.setIfInBounds_toArray, List.set_cons_zero, List.set_cons_succ])) | (refine go_quiet' (by rfl) (by rfl) (by rfl) ?_; intro K hK; go_big_quiet_op; go_big_quiet_on) | (refine go_nilcheck _ _ rfl rfl (by rfl) (by rfl) ?_; (try simp only [Act.put, List.setIfInBounds_toArray, List.set_cons_zero, List.set_cons_succ])))
  (refine go_act (by rfl) (by rfl) ?_ ?_; (focus (intro w' hC hM; obtain ⟨x, rfl⟩ := hC; ((obtain ⟨u, w', hrun, ho, kb, _, ke⟩ := app8_run (Own8.nil x.wd w1.heap.size) (BS.out x) HL.out (x.ext.le); clear hM hc0; go_simp; exact ⟨⟨⟨w', x.ext.trans (ke rfl)⟩, rfl⟩, ke rfl, ho⟩)))); intro v hv; obtain ⟨_, _, hv, _⟩ := hv; ((revert hv; revert v; intro u1 hv)); (try simp only [Act.put, List.setIfInBounds_toArray, List.set_cons_zero, List.set_cons_succ]))
  repeat (first | ((with_reducible refine go_nil ?_)) | (refine go_skip' (by rfl) ?_; (try simp only [Act.put, List.setIfInBounds_toArray, List.set_cons_zero, List.set_cons_succ])) | (refine go_quiet' (by rfl) (by rfl) (by rfl) ?_; intro K hK; go_big_quiet_op; go_big_quiet_on) | (refine go_nilcheck _ _ rfl rfl (by rfl) (by rfl) ?_; (try simp only [Act.put, List.setIfInBounds_toArray, List.set_cons_zero, List.set_cons_succ])))
  intro w2 hC hall
  obtain ⟨x, rfl⟩ := hC
  have ho : Own8 x.wd w1.heap.size u1 d := hall _ (.inl rfl)
  have hK := hid (K0'.out.trans x.ext)
  have hO := hid (ho.lower K0'.out.le)
  clear hall ho hc0
  go_wp2_with fail
  exact bodyPost_ret (v := .tuple #[.int .i64 r, .bool q, u1]) (by simp [results, Try.results36, go_sem, *]) rfl ⟨u1, rfl, hO.out, hK.out⟩

end Go.Proofs.Ytpdomjinhbnmfaa
