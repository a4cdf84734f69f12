/- The reference's sender: Done, Ack, End. -/
import Derived.Test.YtpdomjinhbnmfaaSegs
set_option linter.unusedSimpArgs false
set_option linter.unusedVariables false
set_option linter.unnecessarySimpa false
set_option maxRecDepth 100000
namespace Go.Proofs.Ytpdomjinhbnmfaa
open Go.RowKit Go.Proofs.YtpdomjinhbnmfaaW.PrintWords
open Go.Proofs.Ytpdomjinhbnmfaa.Pure (crc16V)
attribute [local go_sem] max2_max min2_min max_of_two min_of_two alL_v bdL_none bdL_one bxL_ln lnguard_eq lnguard_ne lnbin_eq lnbin_ne
attribute [local go_sem ↓] ldL_in bxL_in stL_in alL_in bdL_in cvS_in
attribute [local go_sem] gUpon gStill

abbrev QT : TypeId := 34
structure Qs where
  u : Value
  done : Int
  way : Int
  blk : Int
def Qs.cells (k : Qs) : Array Value := #[k.u, .int .i64 k.done, .int .i64 k.way, .int .i64 k.blk]
def Qs.val (k : Qs) : Value := .agg k.cells
theorem infoQT : (Try.prog.info? QT).map (·.size) = some 4 := by kernel_rfl
noncomputable def ldQ (p : Value) : Sem Value := Instr.loadAt QT p
noncomputable def bxQ (v : Value) : Sem Value := Instr.box QT v
noncomputable def stQ (p v : Value) : Sem Unit := Instr.storeAt QT p v
noncomputable def alQ : Sem Value := Instr.alloc QT true (.tuple #[])
noncomputable def bdQ (l : Array (Nat × Value)) : Sem Value := Instr.build QT l
theorem ldQ_in (p : Value) : Instr.loadAt QT p = ldQ p := rfl
theorem bxQ_in (v : Value) : Instr.box QT v = bxQ v := rfl
theorem stQ_in (p v : Value) : Instr.storeAt QT p v = stQ p v := rfl
theorem alQ_in : Instr.alloc QT true (.tuple #[]) = alQ := rfl
theorem bdQ_in (l : Array (Nat × Value)) : Instr.build QT l = bdQ l := rfl
def Qs.zero : Qs := ⟨.slice none 0 0, 0, 0, 0⟩
theorem alQ_v (w : World) : alQ.run Try.prog w = .ok (.pointer (some ⟨w.heap.size, 0, none⟩)) (w.alloc (.cells Qs.zero.cells QT)) := by kernel_rfl
theorem bxQ_v (w : World) (k : Qs) : (bxQ k.val).run Try.prog w = .ok (.pointer (some ⟨w.heap.size, 0, none⟩)) (w.alloc (.cells k.cells QT)) := rfl
theorem bdQ_ack (A : Option Addr) (n c : Nat) (d b : Int) (w : World) : (bdQ #[(0, .slice A n c), (1, .int .i64 d), (3, .int .i64 b)]).run Try.prog w = .ok (Qs.val ⟨.slice A n c, d, 0, b⟩) w := by kernel_rfl
theorem bdQ_new (A : Option Addr) (n c : Nat) (b : Int) (w : World) : (bdQ #[(0, .slice A n c), (3, .int .i64 b)]).run Try.prog w = .ok (Qs.val ⟨.slice A n c, 0, 0, b⟩) w := by kernel_rfl
theorem ldQ_blk {w : World} {b : Nat} {k : Qs} (h : Blk w b k.cells QT) : (ldQ (.pointer (some ⟨b, 0, none⟩))).run Try.prog w = .ok k.val w := by
  have := run_loadAt_mid (P := Try.prog) w b 0 QT k.cells.toList _ (fun j v hv => by rw [Nat.zero_add]; exact h.cell j v (by simpa using hv)) Try.underlying34 rfl (by rw [infoQT]; rfl)
  simpa [ldQ, Qs.val] using this
theorem stQ_put (w : World) (b : Nat) (m k : Qs) (A : Option Addr) (n c : Nat) (hm : m.u = .slice A n c) (h : Blk w b k.cells QT) : (stQ (.pointer (some ⟨b, 0, none⟩)) m.val).run Try.prog w = .ok () (w.setRow b m.cells) := by
  have hs := run_storeVar_row (P := Try.prog) w b QT QT k.cells m.cells h (by rw [infoQT]; rfl) rfl (by simp [Qs.cells, hm, Value.oneCell'])
  unfold stQ
  simp only [Instr.storeAt, Instr.sureAddr, Sem.run_bind, Sem.run_pure, Result.andThen_ok]
  exact hs
theorem putQ_blk {w : World} {b : Nat} {k : Qs} (m : Qs) (h : Blk w b k.cells QT) : Blk (w.setRow b m.cells) b m.cells QT := setRow_heap w b _ _ _ _ h
theorem putQ_only (w : World) (b : Nat) (m : Array Value) : Only b w (w.setRow b m) :=
  ⟨rfl, rfl, rfl, by simp [World.setRow], fun k _ hb => by
    show (w.heap.modify b _)[k]? = _
    rw [Array.getElem?_modify, if_neg (fun e => hb e.symm)]⟩
theorem res_q2 {fn : Func} {p q : Tmp} {tmps : Array Value} {w : World} {b : Nat} {m : Qs} {v : Value} (h : fn.results = #[.cell p QT, .tmp q]) (hp : tmps.getD p undef = .pointer (some ⟨b, 0, none⟩)) (hq : tmps.getD q undef = v) (hb : Blk w b m.cells QT) : (results fn tmps).run Try.prog w = .ok (.tuple #[m.val, v]) w := by
  have hp' : tmps[p]?.getD undef = .pointer (some ⟨b, 0, none⟩) := by simpa using hp
  have hq' : tmps[q]?.getD undef = v := by simpa using hq
  have hl : (loadVar QT ⟨b, 0, none⟩).run Try.prog w = .ok (.agg m.cells) w := run_loadVar_row w b QT QT m.cells (0, 0) _ hb Try.underlying34 rfl (by rw [infoQT]; rfl)
  simp [results, h, hp', hq', asAddr, hl, Qs.val]
attribute [local go_sem] alQ_v bxQ_v bdQ_ack bdQ_new
attribute [local go_sem ↓] ldQ_in bxQ_in stQ_in alQ_in bdQ_in

def Told.segs (N : Nat) : Told Ext := ⟨fun u w => ∃ A c, u = .slice A N c, fun _ _ _ h _ => h⟩
theorem OwnR.len_form {w : World} {B : Nat} {v : Value} {S : List Sl} {N : Nat} (h : OwnR slLay w B v S) (hN : S.length = N) : ∃ A c, v = .slice A N c := by
  subst hN
  exact h.form
set_option maxHeartbeats 1000000 in
theorem rdone_c (u : Value) (b : List Int) (d y k : Int) (w : World) (hu : Bs w u b) (hl : b.length ≤ 64) :
    Calls Try.prog 14 #[Qs.val ⟨u, d, y, k⟩] w fun e w' => e = .returned (.bool (d == (nseg b : Int))) ∧ Ext w w' := by
  have K0 : Ext w (w.alloc (.cells (Qs.cells ⟨u, d, y, k⟩) QT)) := (by repeat (first | with_reducible exact Ext.refl _ | with_reducible assumption | with_reducible apply Ext.alloc | with_reducible apply Ext.drew | with_reducible apply Ext.drewN | (with_reducible refine Ext.set' ?_ (by first | omega | (simp only [World.size_alloc, World.size_setCell]; omega))) | (with_reducible refine Ext.trans ?_ (by with_reducible assumption)) | (with_reducible refine Ext.only ?_ (by with_reducible assumption) (by omega))))
  have bk := Blk.new w (Qs.cells ⟨u, d, y, k⟩) QT
  generalize hw1 : (w.alloc (.cells (Qs.cells ⟨u, d, y, k⟩) QT)) = w1 at *
  have c0 : ∀ x : After w1, x.wd.cell? ⟨w.heap.size, 0, none⟩ = some u := After.cell (bk.cell 0 _ rfl)
  have c1 : ∀ x : After w1, x.wd.cell? ⟨w.heap.size, 1, none⟩ = some (.int .i64 d) := After.cell (bk.cell 1 _ rfl)
  have SG := hid (fun x : After w1 => (segs_c u b x.wd (hu.ext (K0.trans x.ext)) hl).mono (fun e w' h => (by
    obtain ⟨v, S, he, ho, hn, _, hk⟩ := h
    exact ⟨v, he, ⟨⟨w', x.ext.trans hk⟩, rfl⟩, hk, ho.len_form hn⟩ : ∃ v, e = .returned v ∧ (∃ m : After w1, w' = m.wd) ∧ Ext x.wd w' ∧ (Told.segs (nseg b)).F v w')))
  have HK := hid K0
  obtain ⟨A, c, rfl⟩ := hu.form
  generalize nseg b = N at *
  clear bk K0 hu
  go_enter Try.func14, Try.ntmps14
  go_wp2_with fail
  refine wp_region_go (sp := spOf (R := Ext) [(4, Told.segs N)]) (C := fun w' => ∃ n : After w1, w' = n.wd) (R := Ext) (by kernel_rfl) (by kernel_rfl) (spOf_mono _) (After.drew _) ?_
  repeat (first | ((with_reducible refine go_nil ?_)) | (refine go_skip' (by rfl) ?_; (try simp only [Act.put, List.setIfInBounds_toArray, List.set_cons_zero, List.set_cons_succ])) | (refine go_quiet' (by rfl) (by rfl) (by rfl) ?_; intro K hK; go_big_quiet_op; go_big_quiet_on) | (refine go_nilcheck _ _ rfl rfl (by rfl) (by rfl) ?_; (try simp only [Act.put, List.setIfInBounds_toArray, List.set_cons_zero, List.set_cons_succ])))
  (refine go_act (by rfl) (by rfl) ?_ ?_; (focus (intro w' hC hM; obtain ⟨x, rfl⟩ := hC; ((clear hM c0 c1; go_simp; exact SG.out x)))); intro v hv; obtain ⟨_, _, hv, _⟩ := hv; ((obtain ⟨A3, c3, rfl⟩ := hv)); (try simp only [Act.put, List.setIfInBounds_toArray, List.set_cons_zero, List.set_cons_succ]))
  repeat (first | ((with_reducible refine go_nil ?_)) | (refine go_skip' (by rfl) ?_; (try simp only [Act.put, List.setIfInBounds_toArray, List.set_cons_zero, List.set_cons_succ])) | (refine go_quiet' (by rfl) (by rfl) (by rfl) ?_; intro K hK; go_big_quiet_op; go_big_quiet_on) | (refine go_nilcheck _ _ rfl rfl (by rfl) (by rfl) ?_; (try simp only [Act.put, List.setIfInBounds_toArray, List.set_cons_zero, List.set_cons_succ])))
  intro w2 hC hall
  obtain ⟨x, rfl⟩ := hC
  have KX := hid (HK.out.trans x.ext)
  clear hall c0 c1
  go_wp2_with fail
  go_ret
  exact ⟨rfl, KX.out⟩

end Go.Proofs.Ytpdomjinhbnmfaa
