/-
  'toElemS', 'toNet', 'toNetS', 'toArm', 'toArmS' of the laws: the copy they make.
  Conditions: a ladder of at most 1048576 parts.
-/
import Derived.Test.YtkiemiolellllaaTreeW
import Derived.Test.YtkiemiolellllaaCutTrx2
import Derived.Test.YtkiemiolellllaaStoreL
import Derived.Test.YtkiemiolellllaaHxG
namespace Go.Proofs.Ytkiemiolellllaa.tree
open Go Go.RowKit Go.Proofs.Ytkiemiolellllaa.part Go.Proofs.Ytkiemiolellllaa.CutTr Go.Proofs.YtkiemiolellllaaW.PrintWords
set_option linter.unusedVariables false
set_option linter.unusedSimpArgs false
set_option maxRecDepth 100000

def cD (x : ED) : S32 := ⟨x.f0, x.f1, x.f2⟩
def cE (x : EE) : S49 := ⟨x.f0, x.f1.map cD⟩
mutual
def cN : EN → S52
  | ⟨a, e, ks⟩ => ⟨a, cE e, cNs ks⟩
def cNs : List EN → List S52
  | [] => []
  | x :: r => cN x :: cNs r
end
mutual
def cA : EA → S55
  | ⟨n, cs, ks⟩ => ⟨cN n, cs.map cE, cAs ks⟩
def cAs : List EA → List S55
  | [] => []
  | x :: r => cA x :: cAs r
end
theorem cN_eq (x : EN) : cN x = ⟨x.f0, cE x.f1, cNs x.f2⟩ := by obtain ⟨a, e, ks⟩ := x; rw [cN]
theorem cA_eq (x : EA) : cA x = ⟨cN x.f0, x.f1.map cE, cAs x.f2⟩ := by obtain ⟨a, e, ks⟩ := x; rw [cA]
theorem cNs_eq (Y : List EN) : cNs Y = Y.map cN := by
  induction Y with
  | nil => rfl
  | cons x r ih => rw [cNs, ih, List.map_cons]
theorem cAs_eq (Y : List EA) : cAs Y = Y.map cA := by
  induction Y with
  | nil => rfl
  | cons x r ih => rw [cAs, ih, List.map_cons]
theorem toDs_l0 (l : List ED) (hl : l.length ≤ 1048576) : ∀ (k i : Nat), i ≤ l.length → l.length - i < k → laws_toDevArgS.l0 k l ((l.take i).map cD ++ List.replicate (l.length - i) z32) i = some (l.map cD)
  | 0, i, _, h => absurd h (Nat.not_lt_zero _)
  | k + 1, i, hi, hk => by
    have ws : wrap64 ((i : Int) + 1) = ((i + 1 : Nat) : Int) := by unfold wrap64; omega
    rw [laws_toDevArgS.l0]
    by_cases h : i < l.length
    · rw [if_pos (by omega), if_pos (by omega)]
      show (if (i : Int) < _ then _ else _) = _
      rw [if_pos (by simp; omega), ws]
      have ih := toDs_l0 l hl k (i + 1) (by omega) (by omega)
      rw [← ih]
      congr 1
      have e1 : l.take (i + 1) = l.take i ++ [l[i]] := List.take_succ_eq_append_getElem h
      have e2 : rd_T30 l (i : Int) = l[i] := by
        show l.getD (i : Int).toNat z30 = _
        simp [h]
      have e3 : List.replicate (l.length - i) z32 = z32 :: List.replicate (l.length - (i + 1)) z32 := by
        rw [show l.length - i = (l.length - (i + 1)) + 1 by omega, List.replicate_succ]
      rw [e1, e2, e3, List.map_append, List.append_assoc, Int.toNat_natCast, List.set_append_right _ _ (by simp; omega)]
      congr 1
      simp [Nat.min_eq_left (Nat.le_of_lt h)]
      rfl
    · have : i = l.length := by omega
      subst this
      rw [if_neg (by omega)]
      simp
theorem toElem_f (op : Int) (l : List ED) (hl : l.length ≤ 1048576) : laws_toElem.f (l.length + 1) op l = some (op, l.map cD) := by
  unfold laws_toElem.f laws_toDevArgS.f
  rw [if_pos (by omega), if_pos (by simp; omega)]
  have := toDs_l0 l hl (l.length + 1) 0 (Nat.zero_le _) (by omega)
  simp only [List.take_zero, List.map_nil, List.nil_append, Nat.sub_zero] at this
  rw [Int.toNat_natCast, show (0 : Int) = ((0 : Nat) : Int) from rfl, this]
  rfl

/-! ### elements that are laid one by one -/
section
variable {α : Type} {d : Kd α} {sz b : Nat} {w w1 w2 : World} {vs : Array Value} {Z : List α} {kk : Nat}
def Done (d : Kd α) (sz b : Nat) (w : World) (vs : Array Value) (Z : List α) (kk : Nat) : Prop := ∀ j (hj : j < Z.length), j < kk → ∃ cs : List Value, cs.length = sz ∧ (∀ i u, cs[i]? = some u → vs[j * sz + i]? = some u) ∧ St (b + 1) w fun W' => d.K W' Z[j] cs
theorem Done.zero : Done d sz b w vs Z 0 := fun j _ h => absurd h (Nat.not_lt_zero _)
theorem Done.put (h : Done d sz b w vs Z kk) (hb : Below w.heap.size w w1) (hbl : b < w.heap.size) {cs : Array Value} (hcs : cs.size = sz) (hz : kk * sz + sz ≤ vs.size) (hk : kk < Z.length) (hK : St w.heap.size w1 fun W' => d.K W' Z[kk] cs.toList) (h2 : ∀ i, i ≠ b → w2.heap[i]? = w1.heap[i]?) (hs : w1.heap.size ≤ w2.heap.size) : Done d sz b w2 (putL vs (kk * sz) cs.toList) Z (kk + 1) := by
  have hp := putL_all cs.toList vs (kk * sz) (by simp; omega)
  intro j hj hjk
  by_cases e : j = kk
  · subst e
    refine ⟨cs.toList, by simpa using hcs, fun i u hu => ?_, (hK.lower (lo' := b + 1) hbl).but hs h2 (Nat.lt_succ_self _)⟩
    have hi : i < cs.size := by simpa using (List.getElem?_eq_some_iff.1 hu).1
    rw [hp, if_pos (by simp; omega), show j * sz + i - j * sz = i by omega]
    exact hu
  · obtain ⟨c1, a1, a2, a3⟩ := h j hj (by omega)
    refine ⟨c1, a1, fun i u hu => ?_, ((a3.below hb).but hs h2 (Nat.lt_succ_self _))⟩
    have hi : i < c1.length := (List.getElem?_eq_some_iff.1 hu).1
    have hm : (j + 1) * sz ≤ kk * sz := Nat.mul_le_mul_right _ (by omega)
    rw [Nat.add_mul] at hm
    rw [hp, if_neg (by omega)]
    exact a2 i u hu
theorem Done.row (h : Done d sz b w vs Z Z.length) (hd : d.sz = sz) {t : TypeId} (hb : w.heap[b]? = some (.cells vs t (0, 0))) (hl : Z.length ≤ 9223372036854775807) : St b w fun W' => Kd.C d W' (some ⟨b, 0, none⟩) Z.length Z := by
  have hbl := kit.box_lt hb
  intro W' h1 h2
  refine ⟨rfl, hl, fun h0 => ⟨_, rfl, fun j p hj => ?_⟩⟩
  obtain ⟨hjl, rfl⟩ := List.getElem?_eq_some_iff.1 hj
  obtain ⟨cs, a1, a2, a3⟩ := h j hjl hjl
  refine ⟨cs, by rw [hd]; exact a1, a3 W' h1 (fun i hi hlt => h2 i (by omega) hlt), fun i u hu => ?_⟩
  have hv := a2 i u hu
  rw [hd]
  have hb' : W'.heap[b]? = some (.cells vs t (0, 0)) := (h2 b (Nat.le_refl _) hbl).trans hb
  have := kit.box_cell hb' (j * sz + i) hv
  cases hq : j * sz + i with
  | zero => rw [hq] at this; simpa [Addr.add] using this
  | succ q => rw [hq] at this; simpa [Addr.add] using this
end
/-- 'toElem' of one, loosely: what comes back is read as the copy. -/
def ToE (x : EE) : Prop := ∀ (A1 : Option Addr) (a1 : Nat) (w : World), Kd.C k30 w A1 x.f1.length x.f1 → x.f1.length ≤ a1 → x.f1.length ≤ 1048576 →
    Calls Try.prog 47 #[.agg #[.int .i64 x.f0, .slice A1 x.f1.length a1]] w fun e w' => ∃ cs : Array Value, e = .returned (.agg cs) ∧ cs.size = 2 ∧ (∀ v ∈ cs, v.oneCell' = true) ∧ St w.heap.size w' (fun W' => k49.K W' (cE x) cs.toList) ∧ Below w.heap.size w w'
def ToEs (Y : List EE) : Prop := ∀ (A : Option Addr) (c : Nat) (w : World), Kd.C k39 w A Y.length Y → Y.length ≤ c → wEs Y ≤ 1048576 →
    Calls Try.prog 37 #[.slice A Y.length c] w fun e w' => e = .returned (.slice (some ⟨w.heap.size, 0, none⟩) Y.length Y.length) ∧ St w.heap.size w' (fun W' => Kd.C k49 W' (some ⟨w.heap.size, 0, none⟩) (Y.map cE).length (Y.map cE)) ∧ Below w.heap.size w w'
theorem info_Elem : (Try.prog.info? 49).map (fun i => (i.zero, i.size, i.bytes)) = some (some (.agg #[.int .i64 0, .slice none 0 0]), 2, 32) := by kernel_rfl
set_option maxHeartbeats 4000000 in
theorem toEs_of (Y : List EE) (ih : ∀ x ∈ Y, ToE x) : ToEs Y := by
  intro A c w hC hc hw
  have HC := Lib.hid hC
  have Hc := Lib.hid hc
  have hsum := wEs_eq Y
  have Hm := Lib.hid (show Y.length ≤ 1048576 by omega)
  have HW := Lib.hid (show Y.length + sm (fun x : EE => x.f1.length) Y ≤ 1048576 by omega)
  have IH := Lib.hid ih
  have HMAP : Hid ((Y.map cE).length = Y.length) := Lib.hid (List.length_map _)
  clear hC hc hw hsum ih
  go_enter Try.func37, Try.ntmps37
  go_wp2_with (refine wl_make rfl _ _ _ rfl Y.length rfl rfl 49 (.agg #[.int .i64 0, .slice none 0 0]) 2 32 Try.underlying53 info_Elem (by have := Hm.out; omega) (by have := Hm.out; omega) ?_)
  have z0 : Hid ((w.alloc (.cells (madeCells #[.int .i64 0, .slice none 0 0] (Y.length * 2)) 49)).heap[w.heap.size]? = some (.cells (madeCells #[.int .i64 0, .slice none 0 0] (Y.length * 2)) 49 (0, 0))) := Lib.hid (kit.box_new _ _ _)
  have z1 : Hid ((madeCells #[.int .i64 0, .slice none 0 0] (Y.length * 2)).size = Y.length * 2) := Lib.hid (size_madeCells _ _)
  generalize madeCells #[.int .i64 0, .slice none 0 0] (Y.length * 2) = v0 at *
  go_loopg [4] Y.length (fun gg s4 wr => ∃ kk : Nat, ∃ vs : Array Value, kk ≤ Y.length ∧ Y.length - kk ≤ gg ∧ s4 = .int .i64 kk ∧ Hid (Below w.heap.size w wr) ∧ Hid (wr.heap[w.heap.size]? = some (.cells vs 49 (0, 0)) ∧ vs.size = Y.length * 2) ∧ Hid (Done k49 2 w.heap.size wr vs (Y.map cE) kk))
  case atStart => exact ⟨0, v0, Nat.zero_le _, by omega, rfl, Lib.hid ((Below.refl _ _).alloc (Nat.le_refl _) _), Lib.hid ⟨z0.out, z1.out⟩, Lib.hid Done.zero⟩
  case round =>
    clear z0 z1
    obtain ⟨kk, vs, hk1, hgg, rfl, HB, HV, HD⟩ := hrel
    by_cases hlt : kk < Y.length
    · obtain ⟨ad, A1, a1, e, y0, y1, l1, g1⟩ := at_T39 HC.out (kk : Int) (by omega) (by omega)
      subst e
      have ev : rd_T39 Y (kk : Int) = Y[kk] := by
        show Y.getD (kk : Int).toNat z39 = _
        simp [hlt]
      rw [ev] at y0 y1 l1 g1
      rw [Int.toNat_natCast] at y0 y1
      have G1 := Lib.hid g1
      have L1 := Lib.hid l1
      have Ix := Lib.hid (IH.out Y[kk] (List.getElem_mem hlt))
      have Ht := sm_take (fun x : EE => x.f1.length) Y kk hlt
      have Hle := sm_le (fun x : EE => x.f1.length) Y (kk + 1)
      have Hw := Lib.hid (show Y[kk].f1.length ≤ 1048576 by have := HW.out; (try simp only at Ht Hle); omega)
      have EZ : Hid ((Y.map cE)[kk]? = some (cE Y[kk])) := Lib.hid (by simp [hlt])
      generalize Y[kk] = y at *
      clear l1 g1 ev Ht Hle
      replace y0 := (HB.out.cell (World.block_lt_of_cell? w _ y0)).trans y0
      replace y1 := (HB.out.cell (World.block_lt_of_cell? w _ y1)).trans y1
      go_wp2_with fail
      refine (Ix.out A1 a1 _ (Kd.C_below G1.out HB.out) L1.out Hw.out).mono ?_
      rintro e w1 ⟨cs, rfl, hcs, hone, hK, hb⟩
      have HX := Lib.hid (⟨hcs, hone, hK, hb⟩ : _ ∧ _ ∧ _ ∧ _)
      have hbox : w1.heap[w.heap.size]? = some (.cells vs 49 (0, 0)) := (hb.block _ (kit.box_lt HV.out.1)).trans HV.out.1
      have HBX := Lib.hid hbox
      clear hcs hone hK hb hbox y0 y1
      go_wp2_with (refine wl_sto rfl _ _ _ rfl HBX.out (kk * 2) rfl (.agg cs) rfl HX.out.2.1 2 HX.out.1 (by have := HV.out.2; omega) (by kernel_rfl) ?_; intro w2 x1 x2 x3)
      have HN : Hid (Done k49 2 w.heap.size w2 (putL vs (kk * 2) cs.toList) (Y.map cE) (kk + 1)) := Lib.hid (HD.out.put HX.out.2.2.2 (kit.box_lt HV.out.1) HX.out.1 (by have := HV.out.2; omega) (by rw [HMAP.out]; exact hlt) (by have hq := EZ.out; rw [List.getElem?_eq_getElem (by rw [HMAP.out]; exact hlt)] at hq; rw [Option.some.inj hq]; exact HX.out.2.2.1) x2 x3.size)
      have HV2 : Hid (w2.heap[w.heap.size]? = some (.cells (putL vs (kk * 2) cs.toList) 49 (0, 0)) ∧ (putL vs (kk * 2) cs.toList).size = Y.length * 2) := Lib.hid ⟨x1, by rw [putL_size]; exact HV.out.2⟩
      have HB2 := Lib.hid (Below.trans HB.out ((HX.out.2.2.2.mono HB.out.size).trans x3))
      clear x1 x2 x3
      go_roundg (Y.length - (kk + 1))
      case measure => omega
      case rel => exact ⟨kk + 1, _, by omega, Nat.le_refl _, (by rw [show wrap64 ((kk : Int) + 1) = ((kk + 1 : Nat) : Int) by unfold wrap64; have := Hm.out; omega]), HB2, HV2, HN⟩
    · have hke : kk = Y.length := by omega
      subst hke
      go_wp2_with fail
      go_ret
      refine ⟨rfl, ?_, HB.out⟩
      have hd := HD.out
      rw [← HMAP.out] at hd
      exact hd.row rfl HV.out.1 (by rw [HMAP.out]; have := Hm.out; omega)
theorem toE_raw (x : EE) (A1 : Option Addr) (a1 : Nat) (w : World) (g1 : Kd.C k30 w A1 x.f1.length x.f1) (l1 : x.f1.length ≤ a1) (hw : x.f1.length ≤ 1048576) :
    Calls Try.prog 47 #[.agg #[.int .i64 x.f0, .slice A1 x.f1.length a1]] w fun e w' => ∃ B b, e = .returned (.agg #[.int .i64 x.f0, .slice B (x.f1.map cD).length b]) ∧ (x.f1.map cD).length ≤ b ∧ St w.heap.size w' (fun W' => Kd.C k32 W' B (x.f1.map cD).length (x.f1.map cD)) ∧ Below w.heap.size w w' := by
  refine (laws_toElem.calls (x.f1.length + 1) x.f0 A1 a1 x.f1 x.f0 (x.f1.map cD) w g1 l1 (toElem_f _ _ hw)).mono ?_
  rintro e w' ⟨v, rfl, hr, hb⟩
  obtain ⟨B, b, rfl, h1, h2⟩ := Kd.R_reads hr
  refine ⟨B, b, rfl, h1, fun W' s1 s2 => ?_, hb⟩
  obtain ⟨B', b', e, h3, h4⟩ := Kd.R_reads (Kd.R_step (Kd.R_bound hr) (w1 := W') (fun k hk hlt => s2 k hk.2.1 hlt))
  injection e with e1 _ _
  subst e1
  exact h4
theorem toE_all (x : EE) : ToE x := by
  intro A1 a1 w g1 l1 hw
  refine (toE_raw x A1 a1 w g1 l1 hw).mono ?_
  rintro e w' ⟨B, b, rfl, h1, h2, h3⟩
  refine ⟨_, rfl, rfl, ?_, h2.map fun W' h => k49_mk W' (cE x) h1 h, h3⟩
  intro v hv
  simp at hv
  rcases hv with rfl | rfl <;> rfl
theorem toEs_all (Y : List EE) : ToEs Y := toEs_of Y fun x _ => toE_all x
/-- 'toNet' of one, loosely: what comes back is read as the copy. -/
def ToN (x : EN) : Prop := ∀ (A2 A3 : Option Addr) (a2 a3 : Nat) (w : World), Kd.C k30 w A2 x.f1.f1.length x.f1.f1 → x.f1.f1.length ≤ a2 → Kd.C k42 w A3 x.f2.length x.f2 → x.f2.length ≤ a3 → wN x ≤ 1048576 →
    Calls Try.prog 36 #[.agg #[.int .i64 x.f0, .int .i64 x.f1.f0, .slice A2 x.f1.f1.length a2, .slice A3 x.f2.length a3]] w fun e w' => ∃ cs : Array Value, e = .returned (.agg cs) ∧ cs.size = 4 ∧ (∀ v ∈ cs, v.oneCell' = true) ∧ St w.heap.size w' (fun W' => k52.K W' (cN x) cs.toList) ∧ Below w.heap.size w w'
def ToNs (Y : List EN) : Prop := ∀ (A : Option Addr) (c : Nat) (w : World), Kd.C k42 w A Y.length Y → Y.length ≤ c → wNs Y ≤ 1048576 →
    Calls Try.prog 48 #[.slice A Y.length c] w fun e w' => e = .returned (.slice (some ⟨w.heap.size, 0, none⟩) Y.length Y.length) ∧ St w.heap.size w' (fun W' => Kd.C k52 W' (some ⟨w.heap.size, 0, none⟩) (Y.map cN).length (Y.map cN)) ∧ Below w.heap.size w w'
theorem info_Net : (Try.prog.info? 52).map (fun i => (i.zero, i.size, i.bytes)) = some (some (.agg #[.int .i64 0, .int .i64 0, .slice none 0 0, .slice none 0 0]), 4, 64) := by kernel_rfl
set_option maxHeartbeats 4000000 in
theorem toNs_of (Y : List EN) (ih : ∀ x ∈ Y, ToN x) : ToNs Y := by
  intro A c w hC hc hw
  have HC := Lib.hid hC
  have Hc := Lib.hid hc
  have hsum := wNs_eq Y
  have Hm := Lib.hid (show Y.length ≤ 1048576 by omega)
  have HW := Lib.hid (show Y.length + sm wN Y ≤ 1048576 by omega)
  have IH := Lib.hid ih
  have HMAP : Hid ((Y.map cN).length = Y.length) := Lib.hid (List.length_map _)
  clear hC hc hw hsum ih
  go_enter Try.func48, Try.ntmps48
  go_wp2_with (refine wl_make rfl _ _ _ rfl Y.length rfl rfl 52 (.agg #[.int .i64 0, .int .i64 0, .slice none 0 0, .slice none 0 0]) 4 64 Try.underlying50 info_Net (by have := Hm.out; omega) (by have := Hm.out; omega) ?_)
  have z0 : Hid ((w.alloc (.cells (madeCells #[.int .i64 0, .int .i64 0, .slice none 0 0, .slice none 0 0] (Y.length * 4)) 52)).heap[w.heap.size]? = some (.cells (madeCells #[.int .i64 0, .int .i64 0, .slice none 0 0, .slice none 0 0] (Y.length * 4)) 52 (0, 0))) := Lib.hid (kit.box_new _ _ _)
  have z1 : Hid ((madeCells #[.int .i64 0, .int .i64 0, .slice none 0 0, .slice none 0 0] (Y.length * 4)).size = Y.length * 4) := Lib.hid (size_madeCells _ _)
  generalize madeCells #[.int .i64 0, .int .i64 0, .slice none 0 0, .slice none 0 0] (Y.length * 4) = v0 at *
  go_loopg [4] Y.length (fun gg s4 wr => ∃ kk : Nat, ∃ vs : Array Value, kk ≤ Y.length ∧ Y.length - kk ≤ gg ∧ s4 = .int .i64 kk ∧ Hid (Below w.heap.size w wr) ∧ Hid (wr.heap[w.heap.size]? = some (.cells vs 52 (0, 0)) ∧ vs.size = Y.length * 4) ∧ Hid (Done k52 4 w.heap.size wr vs (Y.map cN) kk))
  case atStart => exact ⟨0, v0, Nat.zero_le _, by omega, rfl, Lib.hid ((Below.refl _ _).alloc (Nat.le_refl _) _), Lib.hid ⟨z0.out, z1.out⟩, Lib.hid Done.zero⟩
  case round =>
    clear z0 z1
    obtain ⟨kk, vs, hk1, hgg, rfl, HB, HV, HD⟩ := hrel
    by_cases hlt : kk < Y.length
    · obtain ⟨ad, A2, a2, A3, a3, e, y0, y1, y2, y3, l2, g2, l3, g3⟩ := at_T42 HC.out (kk : Int) (by omega) (by omega)
      subst e
      have ev : rd_T42 Y (kk : Int) = Y[kk] := by
        show Y.getD (kk : Int).toNat z42 = _
        simp [hlt]
      rw [ev] at y0 y1 y2 y3 l2 g2 l3 g3
      rw [Int.toNat_natCast] at y0 y1 y2 y3
      have G2 := Lib.hid g2
      have L2 := Lib.hid l2
      have G3 := Lib.hid g3
      have L3 := Lib.hid l3
      have Ix := Lib.hid (IH.out Y[kk] (List.getElem_mem hlt))
      have Ht := sm_take wN Y kk hlt
      have Hle := sm_le wN Y (kk + 1)
      have Hw := Lib.hid (show wN Y[kk] ≤ 1048576 by have := HW.out; (try simp only at Ht Hle); omega)
      have EZ : Hid ((Y.map cN)[kk]? = some (cN Y[kk])) := Lib.hid (by simp [hlt])
      generalize Y[kk] = y at *
      clear l2 g2 l3 g3 ev Ht Hle
      replace y0 := (HB.out.cell (World.block_lt_of_cell? w _ y0)).trans y0
      replace y1 := (HB.out.cell (World.block_lt_of_cell? w _ y1)).trans y1
      replace y2 := (HB.out.cell (World.block_lt_of_cell? w _ y2)).trans y2
      replace y3 := (HB.out.cell (World.block_lt_of_cell? w _ y3)).trans y3
      go_wp2_with fail
      refine (Ix.out A2 A3 a2 a3 _ (Kd.C_below G2.out HB.out) L2.out (Kd.C_below G3.out HB.out) L3.out Hw.out).mono ?_
      rintro e w1 ⟨cs, rfl, hcs, hone, hK, hb⟩
      have HX := Lib.hid (⟨hcs, hone, hK, hb⟩ : _ ∧ _ ∧ _ ∧ _)
      have hbox : w1.heap[w.heap.size]? = some (.cells vs 52 (0, 0)) := (hb.block _ (kit.box_lt HV.out.1)).trans HV.out.1
      have HBX := Lib.hid hbox
      clear hcs hone hK hb hbox y0 y1 y2 y3
      go_wp2_with (refine wl_sto rfl _ _ _ rfl HBX.out (kk * 4) rfl (.agg cs) rfl HX.out.2.1 4 HX.out.1 (by have := HV.out.2; omega) (by kernel_rfl) ?_; intro w2 x1 x2 x3)
      have HN : Hid (Done k52 4 w.heap.size w2 (putL vs (kk * 4) cs.toList) (Y.map cN) (kk + 1)) := Lib.hid (HD.out.put HX.out.2.2.2 (kit.box_lt HV.out.1) HX.out.1 (by have := HV.out.2; omega) (by rw [HMAP.out]; exact hlt) (by have hq := EZ.out; rw [List.getElem?_eq_getElem (by rw [HMAP.out]; exact hlt)] at hq; rw [Option.some.inj hq]; exact HX.out.2.2.1) x2 x3.size)
      have HV2 : Hid (w2.heap[w.heap.size]? = some (.cells (putL vs (kk * 4) cs.toList) 52 (0, 0)) ∧ (putL vs (kk * 4) cs.toList).size = Y.length * 4) := Lib.hid ⟨x1, by rw [putL_size]; exact HV.out.2⟩
      have HB2 := Lib.hid (Below.trans HB.out ((HX.out.2.2.2.mono HB.out.size).trans x3))
      clear x1 x2 x3
      go_roundg (Y.length - (kk + 1))
      case measure => omega
      case rel => exact ⟨kk + 1, _, by omega, Nat.le_refl _, (by rw [show wrap64 ((kk : Int) + 1) = ((kk + 1 : Nat) : Int) by unfold wrap64; have := Hm.out; omega]), HB2, HV2, HN⟩
    · have hke : kk = Y.length := by omega
      subst hke
      go_wp2_with fail
      go_ret
      refine ⟨rfl, ?_, HB.out⟩
      have hd := HD.out
      rw [← HMAP.out] at hd
      exact hd.row rfl HV.out.1 (by rw [HMAP.out]; have := Hm.out; omega)
/-- 'toArm' of one, loosely: what comes back is read as the copy. -/
def ToA (x : EA) : Prop := ∀ (A2 A3 A4 A5 : Option Addr) (a2 a3 a4 a5 : Nat) (w : World), Kd.C k30 w A2 x.f0.f1.f1.length x.f0.f1.f1 → x.f0.f1.f1.length ≤ a2 → Kd.C k42 w A3 x.f0.f2.length x.f0.f2 → x.f0.f2.length ≤ a3 → Kd.C k39 w A4 x.f1.length x.f1 → x.f1.length ≤ a4 → Kd.C k45 w A5 x.f2.length x.f2 → x.f2.length ≤ a5 → wA x ≤ 1048576 →
    Calls Try.prog 18 #[.agg #[.int .i64 x.f0.f0, .int .i64 x.f0.f1.f0, .slice A2 x.f0.f1.f1.length a2, .slice A3 x.f0.f2.length a3, .slice A4 x.f1.length a4, .slice A5 x.f2.length a5]] w fun e w' => ∃ cs : Array Value, e = .returned (.agg cs) ∧ cs.size = 6 ∧ (∀ v ∈ cs, v.oneCell' = true) ∧ St w.heap.size w' (fun W' => k55.K W' (cA x) cs.toList) ∧ Below w.heap.size w w'
def ToAs (Y : List EA) : Prop := ∀ (A : Option Addr) (c : Nat) (w : World), Kd.C k45 w A Y.length Y → Y.length ≤ c → wAs Y ≤ 1048576 →
    Calls Try.prog 8 #[.slice A Y.length c] w fun e w' => e = .returned (.slice (some ⟨w.heap.size, 0, none⟩) Y.length Y.length) ∧ St w.heap.size w' (fun W' => Kd.C k55 W' (some ⟨w.heap.size, 0, none⟩) (Y.map cA).length (Y.map cA)) ∧ Below w.heap.size w w'
theorem info_Arm : (Try.prog.info? 55).map (fun i => (i.zero, i.size, i.bytes)) = some (some (.agg #[.int .i64 0, .int .i64 0, .slice none 0 0, .slice none 0 0, .slice none 0 0, .slice none 0 0]), 6, 112) := by kernel_rfl
set_option maxHeartbeats 4000000 in
theorem toAs_of (Y : List EA) (ih : ∀ x ∈ Y, ToA x) : ToAs Y := by
  intro A c w hC hc hw
  have HC := Lib.hid hC
  have Hc := Lib.hid hc
  have hsum := wAs_eq Y
  have Hm := Lib.hid (show Y.length ≤ 1048576 by omega)
  have HW := Lib.hid (show Y.length + sm wA Y ≤ 1048576 by omega)
  have IH := Lib.hid ih
  have HMAP : Hid ((Y.map cA).length = Y.length) := Lib.hid (List.length_map _)
  clear hC hc hw hsum ih
  go_enter Try.func8, Try.ntmps8
  go_wp2_with (refine wl_make rfl _ _ _ rfl Y.length rfl rfl 55 (.agg #[.int .i64 0, .int .i64 0, .slice none 0 0, .slice none 0 0, .slice none 0 0, .slice none 0 0]) 6 112 Try.underlying25 info_Arm (by have := Hm.out; omega) (by have := Hm.out; omega) ?_)
  have z0 : Hid ((w.alloc (.cells (madeCells #[.int .i64 0, .int .i64 0, .slice none 0 0, .slice none 0 0, .slice none 0 0, .slice none 0 0] (Y.length * 6)) 55)).heap[w.heap.size]? = some (.cells (madeCells #[.int .i64 0, .int .i64 0, .slice none 0 0, .slice none 0 0, .slice none 0 0, .slice none 0 0] (Y.length * 6)) 55 (0, 0))) := Lib.hid (kit.box_new _ _ _)
  have z1 : Hid ((madeCells #[.int .i64 0, .int .i64 0, .slice none 0 0, .slice none 0 0, .slice none 0 0, .slice none 0 0] (Y.length * 6)).size = Y.length * 6) := Lib.hid (size_madeCells _ _)
  generalize madeCells #[.int .i64 0, .int .i64 0, .slice none 0 0, .slice none 0 0, .slice none 0 0, .slice none 0 0] (Y.length * 6) = v0 at *
  go_loopg [4] Y.length (fun gg s4 wr => ∃ kk : Nat, ∃ vs : Array Value, kk ≤ Y.length ∧ Y.length - kk ≤ gg ∧ s4 = .int .i64 kk ∧ Hid (Below w.heap.size w wr) ∧ Hid (wr.heap[w.heap.size]? = some (.cells vs 55 (0, 0)) ∧ vs.size = Y.length * 6) ∧ Hid (Done k55 6 w.heap.size wr vs (Y.map cA) kk))
  case atStart => exact ⟨0, v0, Nat.zero_le _, by omega, rfl, Lib.hid ((Below.refl _ _).alloc (Nat.le_refl _) _), Lib.hid ⟨z0.out, z1.out⟩, Lib.hid Done.zero⟩
  case round =>
    clear z0 z1
    obtain ⟨kk, vs, hk1, hgg, rfl, HB, HV, HD⟩ := hrel
    by_cases hlt : kk < Y.length
    · obtain ⟨ad, A2, a2, A3, a3, A4, a4, A5, a5, e, y0, y1, y2, y3, y4, y5, l2, g2, l3, g3, l4, g4, l5, g5⟩ := at_T45 HC.out (kk : Int) (by omega) (by omega)
      subst e
      have ev : rd_T45 Y (kk : Int) = Y[kk] := by
        show Y.getD (kk : Int).toNat z45 = _
        simp [hlt]
      rw [ev] at y0 y1 y2 y3 y4 y5 l2 g2 l3 g3 l4 g4 l5 g5
      rw [Int.toNat_natCast] at y0 y1 y2 y3 y4 y5
      have G2 := Lib.hid g2
      have L2 := Lib.hid l2
      have G3 := Lib.hid g3
      have L3 := Lib.hid l3
      have G4 := Lib.hid g4
      have L4 := Lib.hid l4
      have G5 := Lib.hid g5
      have L5 := Lib.hid l5
      have Ix := Lib.hid (IH.out Y[kk] (List.getElem_mem hlt))
      have Ht := sm_take wA Y kk hlt
      have Hle := sm_le wA Y (kk + 1)
      have Hw := Lib.hid (show wA Y[kk] ≤ 1048576 by have := HW.out; (try simp only at Ht Hle); omega)
      have EZ : Hid ((Y.map cA)[kk]? = some (cA Y[kk])) := Lib.hid (by simp [hlt])
      generalize Y[kk] = y at *
      clear l2 g2 l3 g3 l4 g4 l5 g5 ev Ht Hle
      replace y0 := (HB.out.cell (World.block_lt_of_cell? w _ y0)).trans y0
      replace y1 := (HB.out.cell (World.block_lt_of_cell? w _ y1)).trans y1
      replace y2 := (HB.out.cell (World.block_lt_of_cell? w _ y2)).trans y2
      replace y3 := (HB.out.cell (World.block_lt_of_cell? w _ y3)).trans y3
      replace y4 := (HB.out.cell (World.block_lt_of_cell? w _ y4)).trans y4
      replace y5 := (HB.out.cell (World.block_lt_of_cell? w _ y5)).trans y5
      go_wp2_with fail
      refine (Ix.out A2 A3 A4 A5 a2 a3 a4 a5 _ (Kd.C_below G2.out HB.out) L2.out (Kd.C_below G3.out HB.out) L3.out (Kd.C_below G4.out HB.out) L4.out (Kd.C_below G5.out HB.out) L5.out Hw.out).mono ?_
      rintro e w1 ⟨cs, rfl, hcs, hone, hK, hb⟩
      have HX := Lib.hid (⟨hcs, hone, hK, hb⟩ : _ ∧ _ ∧ _ ∧ _)
      have hbox : w1.heap[w.heap.size]? = some (.cells vs 55 (0, 0)) := (hb.block _ (kit.box_lt HV.out.1)).trans HV.out.1
      have HBX := Lib.hid hbox
      clear hcs hone hK hb hbox y0 y1 y2 y3 y4 y5
      go_wp2_with (refine wl_sto rfl _ _ _ rfl HBX.out (kk * 6) rfl (.agg cs) rfl HX.out.2.1 6 HX.out.1 (by have := HV.out.2; omega) (by kernel_rfl) ?_; intro w2 x1 x2 x3)
      have HN : Hid (Done k55 6 w.heap.size w2 (putL vs (kk * 6) cs.toList) (Y.map cA) (kk + 1)) := Lib.hid (HD.out.put HX.out.2.2.2 (kit.box_lt HV.out.1) HX.out.1 (by have := HV.out.2; omega) (by rw [HMAP.out]; exact hlt) (by have hq := EZ.out; rw [List.getElem?_eq_getElem (by rw [HMAP.out]; exact hlt)] at hq; rw [Option.some.inj hq]; exact HX.out.2.2.1) x2 x3.size)
      have HV2 : Hid (w2.heap[w.heap.size]? = some (.cells (putL vs (kk * 6) cs.toList) 55 (0, 0)) ∧ (putL vs (kk * 6) cs.toList).size = Y.length * 6) := Lib.hid ⟨x1, by rw [putL_size]; exact HV.out.2⟩
      have HB2 := Lib.hid (Below.trans HB.out ((HX.out.2.2.2.mono HB.out.size).trans x3))
      clear x1 x2 x3
      go_roundg (Y.length - (kk + 1))
      case measure => omega
      case rel => exact ⟨kk + 1, _, by omega, Nat.le_refl _, (by rw [show wrap64 ((kk : Int) + 1) = ((kk + 1 : Nat) : Int) by unfold wrap64; have := Hm.out; omega]), HB2, HV2, HN⟩
    · have hke : kk = Y.length := by omega
      subst hke
      go_wp2_with fail
      go_ret
      refine ⟨rfl, ?_, HB.out⟩
      have hd := HD.out
      rw [← HMAP.out] at hd
      exact hd.row rfl HV.out.1 (by rw [HMAP.out]; have := Hm.out; omega)
end Go.Proofs.Ytkiemiolellllaa.tree
