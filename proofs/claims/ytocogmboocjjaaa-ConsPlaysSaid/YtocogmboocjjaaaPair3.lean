/- Package pair: the checker's Fork; Unlike and the reference's Unlike; Cause. -/
import Derived.Test.YtocogmboocjjaaaPair2
set_option linter.unusedSimpArgs false
set_option linter.unusedVariables false
set_option linter.unnecessarySimpa false
namespace Go.Proofs.Ytocogmboocjjaaa
open Go.RowKit Go.Proofs.YtocogmboocjjaaaW.PrintWords
attribute [local go_sem] max2_max min2_min max_of_two min_of_two bxF_fr stF_fr stF_fr2 stF_put ldF_put ldV_put ldF_new guard_eq guard_ne bin_eq bin_ne alF_fr bdF_none bdF_ask bdF_len bdF_dat ext_drew' ext_alloc
attribute [local go_sem ↓] ldF_in ldV_in bxF_in stF_in cvS_in alF_in bdF_in ixS_in
attribute [local go_sem] gUpon

theorem Bs.form {w : World} {v : Value} {l : List Int} (h : Bs w v l) : ∃ A c, v = .slice A l.length c := by
  obtain ⟨A, bl, o, c, rfl, _⟩ := h
  exact ⟨A, c, rfl⟩
theorem Bt.form {w : World} {v : Value} {l : List Int} (h : Bt w v l) : ∃ A c, v = .slice A l.length c := h.bs.form
def Told.bt (l : List Int) : Told Ext := ⟨fun u w => Bt w u l, fun _ _ _ h k => h.ext k⟩
theorem Calls.told_bt {P : Program} {f : FuncId} {args : Array Value} {W : World} {n : After W} {l : List Int} {B : Nat} (hb : Byt l)
    (h : Calls P f args n.wd fun e w' => ∃ v, e = .returned v ∧ Own8 w' B v l ∧ Ext n.wd w') : Calls P f args n.wd fun e w'' => ∃ u, e = .returned u ∧ (∃ m : After W, w'' = m.wd) ∧ Ext n.wd w'' ∧ (Told.bt l).F u w'' :=
  h.mono fun _ w' ⟨v, he, ho, hk⟩ => ⟨v, he, ⟨⟨w', n.ext.trans hk⟩, rfl⟩, hk, Bt.own ho hb⟩
def Told.parts (s : Ck) : Told Ext := ⟨fun v w => ∃ u1 u2, v = .agg #[.int .i64 s.size, .bool s.half, u1, u2] ∧ Bt w u1 s.b ∧ Bt w u2 s.value, fun _ _ _ ⟨u1, u2, h, a, b⟩ k => ⟨u1, u2, h, a.ext k, b.ext k⟩⟩
def Told.ck (B : Nat) (s : Ck) : Told Ext := ⟨fun v w => ∃ g, v = .pointer (some ⟨g, 0, none⟩) ∧ CkAt w g s ∧ B ≤ g, fun _ _ _ ⟨g, h, a, b⟩ k => ⟨g, h, a.ext k, b⟩⟩

set_option maxRecDepth 100000 in
set_option maxHeartbeats 2000000 in
theorem fork_c (c : Nat) (s : Ck) (w : World) (h : CkAt w c s) (hb : s.b.length ≤ 140737488355000) (hv : s.value.length ≤ 140737488355000) :
    Calls Try.prog 49 #[.pointer (some ⟨c, 0, none⟩)] w fun e w' => ∃ g, e = .returned (.pointer (some ⟨g, 0, none⟩)) ∧ CkAt w' g s ∧ w.heap.size ≤ g ∧ Ext w w' := by
  obtain ⟨vb, vv, h1, h2, h3⟩ := h
  have c0 : ∀ x : After w, x.wd.cell? ⟨c, 0, none⟩ = some (.int .i64 s.size) := After.cell (h1.cell 0 _ rfl)
  have c1 : ∀ x : After w, x.wd.cell? ⟨c, 1, none⟩ = some (.bool s.half) := After.cell (h1.cell 1 _ rfl)
  have c2 : ∀ x : After w, x.wd.cell? ⟨c, 2, none⟩ = some vb := After.cell (h1.cell 2 _ rfl)
  have c3 : ∀ x : After w, x.wd.cell? ⟨c, 3, none⟩ = some vv := After.cell (h1.cell 3 _ rfl)
  have CB := hid (fun x : After w => clone_c vb s.b x.wd (h2.ext x.ext).bs hb)
  have CV := hid (fun x : After w => clone_c vv s.value x.wd (h3.ext x.ext).bs hv)
  have hyb := h2.2
  have hyv := h3.2
  clear h1 h2 h3
  generalize hsz : s.size = size at *
  generalize hhf : s.half = half at *
  have HSH := hid (And.intro hsz hhf)
  clear hsz hhf
  go_enter Try.func49, Try.ntmps49
  go_wp2_with fail
  refine wp_region_go (sp := spOf (R := Ext) [(12, Told.bt s.b), (17, Told.bt s.value), (18, Told.parts s), (19, Told.ck w.heap.size s)]) (C := fun w' => ∃ n : After w, w' = n.wd) (R := Ext) (by kernel_rfl) (by kernel_rfl) (spOf_mono _) (After.drew _) ?_
  repeat (first | ((with_reducible refine go_nil ?_)) | (refine go_skip' (by rfl) ?_; (try simp only [Act.put, List.setIfInBounds_toArray, List.set_cons_zero, List.set_cons_succ])) | (refine go_quiet' (by rfl) (by rfl) (by rfl) ?_; intro K hK; go_big_quiet_op; go_big_quiet_on) | (refine go_nilcheck _ _ rfl rfl (by rfl) (by rfl) ?_; (try simp only [Act.put, List.setIfInBounds_toArray, List.set_cons_zero, List.set_cons_succ])))
  (refine go_act (by rfl) (by rfl) ?_ ?_; (focus (intro w' hC hM; obtain ⟨x, rfl⟩ := hC; ((go_simp; exact Calls.told_bt hyb (CB.out x))))); intro v hv; obtain ⟨_, _, hv, _⟩ := hv; ((obtain ⟨A1, p1, rfl⟩   := Bt.form hv)); (try simp only [Act.put, List.setIfInBounds_toArray, List.set_cons_zero, List.set_cons_succ]))
  repeat (first | ((with_reducible refine go_nil ?_)) | (refine go_skip' (by rfl) ?_; (try simp only [Act.put, List.setIfInBounds_toArray, List.set_cons_zero, List.set_cons_succ])) | (refine go_quiet' (by rfl) (by rfl) (by rfl) ?_; intro K hK; go_big_quiet_op; go_big_quiet_on) | (refine go_nilcheck _ _ rfl rfl (by rfl) (by rfl) ?_; (try simp only [Act.put, List.setIfInBounds_toArray, List.set_cons_zero, List.set_cons_succ])))
  (refine go_act (by rfl) (by rfl) ?_ ?_; (focus (intro w' hC hM; obtain ⟨x, rfl⟩ := hC; ((go_simp; exact Calls.told_bt hyv (CV.out x))))); intro v hv; obtain ⟨_, _, hv, _⟩ := hv; ((obtain ⟨A2, p2, rfl⟩   := Bt.form hv)); (try simp only [Act.put, List.setIfInBounds_toArray, List.set_cons_zero, List.set_cons_succ]))
  (refine go_act (by rfl) (by rfl) ?_ ?_; (focus (intro w' hC hM; obtain ⟨x, rfl⟩ := hC; ((have f1 : Bt x.wd (.slice A1 s.b.length p1) s.b := hM _ (.inr (.inl rfl)) ⟨17, rfl, by decide⟩; have f2 : Bt x.wd (.slice A2 s.value.length p2) s.value := hM _ (.inl rfl) ⟨22, rfl, by decide⟩; clear hM c0 c1 c2 c3; go_simp; exact ⟨⟨x, rfl⟩, Ext.refl _, _, _, by rw [HSH.out.1, HSH.out.2], f1, f2⟩)))); intro v hv; obtain ⟨_, _, hv, _⟩ := hv; ((obtain ⟨u1, u2, rfl, _, _⟩ := hv)); (try simp only [Act.put, List.setIfInBounds_toArray, List.set_cons_zero, List.set_cons_succ]))
  (refine go_act (by rfl) (by rfl) ?_ ?_; (focus (intro w' hC hM; obtain ⟨x, rfl⟩ := hC; ((have f3 : ∃ a1 a2, Value.agg #[.int .i64 s.size, .bool s.half, u1, u2] = .agg #[.int .i64 s.size, .bool s.half, a1, a2] ∧ Bt x.wd a1 s.b ∧ Bt x.wd a2 s.value := hM _ (.inl rfl) ⟨23, rfl, by decide⟩; obtain ⟨a1, a2, he, f1, f2⟩ := f3; injection he with he; injection he with he; simp only [List.cons.injEq, true_and, and_true] at he; obtain ⟨rfl, rfl⟩ := he; clear hM c0 c1 c2 c3; have hbk := Blk.new x.wd #[.int .i64 s.size, .bool s.half, u1, u2] KT; go_simp; exact ⟨⟨⟨_, x.ext.alloc⟩, rfl⟩, (Ext.refl _).alloc, _, rfl, ⟨_, _, hbk, f1.ext (Ext.refl _).alloc, f2.ext (Ext.refl _).alloc⟩, x.ext.le⟩)))); intro v hv; obtain ⟨_, _, hv, _⟩ := hv; ((obtain ⟨g, rfl, _, hg⟩ := hv)); (try simp only [Act.put, List.setIfInBounds_toArray, List.set_cons_zero, List.set_cons_succ]))
  repeat (first | ((with_reducible refine go_nil ?_)) | (refine go_skip' (by rfl) ?_; (try simp only [Act.put, List.setIfInBounds_toArray, List.set_cons_zero, List.set_cons_succ])) | (refine go_quiet' (by rfl) (by rfl) (by rfl) ?_; intro K hK; go_big_quiet_op; go_big_quiet_on) | (refine go_nilcheck _ _ rfl rfl (by rfl) (by rfl) ?_; (try simp only [Act.put, List.setIfInBounds_toArray, List.set_cons_zero, List.set_cons_succ])))
  intro w1 hC hall
  obtain ⟨x, rfl⟩ := hC
  have hck : ∃ g', Value.pointer (some ⟨g, 0, none⟩) = .pointer (some ⟨g', 0, none⟩) ∧ CkAt x.wd g' s ∧ w.heap.size ≤ g' := hall _ (.inl rfl)
  obtain ⟨g', he, hck, _⟩ := hck
  injection he with he
  injection he with he
  injection he with he
  subst he
  have KX := x.ext
  generalize x.wd = wx at *
  clear hall c0 c1 c2 c3 CB CV
  go_wp2_with fail
  go_ret
  exact ⟨_, rfl, hck, hg, KX⟩

/-- How many bits are set. -/
def pop8 (x : Int) : Int := x % 2 + x / 2 % 2 + x / 4 % 2 + x / 8 % 2 + x / 16 % 2 + x / 32 % 2 + x / 64 % 2 + x / 128 % 2

end Go.Proofs.Ytocogmboocjjaaa
