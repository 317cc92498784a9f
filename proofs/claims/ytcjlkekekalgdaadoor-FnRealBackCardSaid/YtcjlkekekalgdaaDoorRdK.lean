/-
  'impl.RealRead': the walk of a text that is none of the constants'.
  Conditions: a text of at most 4000000 bytes; the tables, the error variables and 'bytealg.MaxLen' hold what they hold.
-/
import Derived.Test.YtcjlkekekalgdaaDoorRdJ
import Derived.Lib.ParseIntBCases
namespace Go.Proofs.YtcjlkekekalgdaaDoor.txt
open Go Go.RowKit Go.Lib Go.Proofs.YtcjlkekekalgdaaDoor.fl Go.Proofs.YtcjlkekekalgdaaDoor.flo Go.Proofs.YtcjlkekekalgdaaDoor.pu Go.Proofs.YtcjlkekekalgdaaDoor.dev
set_option linter.unusedVariables false
set_option linter.unusedSimpArgs false
set_option maxRecDepth 20000

theorem end_bound {l : List UInt8} {n : Int} (h : endOpt (parseUintB 53 l) = some n) : ∃ k : Nat, n = k ∧ k < 2 ^ 53 := by
  rcases hp : parseUintB 53 l with u | _ | _
  ·
    rw [hp] at h
    refine ⟨u, (Option.some.inj h).symm, ?_⟩
    unfold parseUintB at hp
    split at hp
    · cases hp
    · have := parseUintM_le (2 ^ 53 - 1) l 0 u (by omega) hp
      omega
  · rw [hp] at h; cases h
  · rw [hp] at h; cases h

set_option maxHeartbeats 8000000 in
theorem ir_body (s B : ByteArray) (mi : Bool) (hC : ∀ w, Calls Tryd.prog 25 #[.string s, .string ⟨#[45]⟩] w (Is (.tuple #[.string B, .bool mi]) w)) (hsz : B.size ≤ 4000000) (h0 : (B.toList == [110, 97, 110]) = false) (h1 : (B.toList == [105, 110, 102]) = false) (h2 : (B.toList == [48]) = false)
    (hs : Split s.data.toList mi B.data.toList) (w : World) (hp : Pow w) (hm : Mx w) (he : Errs w) : Calls Tryd.prog 9 #[.string s] w (ReadRes s.data.toList w) := by
  have n0 : B.data.toList ≠ [110, 97, 110] := fun e => by rw [ByteArray.toList_eq, e] at h0; cases h0
  have n1 : B.data.toList ≠ [105, 110, 102] := fun e => by rw [ByteArray.toList_eq, e] at h1; cases h1
  have n2 : B.data.toList ≠ [48] := fun e => by rw [ByteArray.toList_eq, e] at h2; cases h2
  have HC := Lib.hid hC
  have HW := Lib.hid hp
  have HM := Lib.hid hm
  have HE := Lib.hid he
  have HR := Lib.hid (fun x hx w hp => impl_text x hx w hp)
  have HX := Lib.hid (fun w hm => cut_any B hsz w hm)
  have HN := Lib.hid (fun hg => no_body hs n0 n1 n2 hg)
  have HG := Lib.hid (fun (n : Nat) (e : Int) h1 h2 hn r0 r hv hL e1 => best_body (n := n) (e := e) hs n0 n1 n2 h1 h2 hn (r0 := r0) (r := r) hv hL e1)
  unfold BodyGood at HN
  have hl : (Lib.cut B.data.toList SEP).1.length ≤ B.data.toList.length ∧ (Lib.cut B.data.toList SEP).2.1.length ≤ B.data.toList.length := by
    unfold Lib.cut
    split
    · simp only [List.length_take, List.length_drop]; omega
    · simp
  rw [Lib.size_eq] at hsz
  obtain ⟨⟨hd, tl, ok⟩, hcut⟩ : ∃ q, Lib.cut B.data.toList SEP = q := ⟨_, rfl⟩
  rw [hcut] at HX HN HG hl
  obtain ⟨X1, hX1⟩ : ∃ b : ByteArray, (⟨hd.toArray⟩ : ByteArray) = b := ⟨_, rfl⟩
  obtain ⟨X2, hX2⟩ : ∃ b : ByteArray, (⟨tl.toArray⟩ : ByteArray) = b := ⟨_, rfl⟩
  have y1 : X1.data.toList = hd := by rw [← hX1]
  have y2 : X2.data.toList = tl := by rw [← hX2]
  have HP := Lib.hid (fun w he => parseUint53 X1 (by rw [Lib.size_eq, y1]; have h3 : hd.length ≤ B.data.toList.length := hl.1; omega) w he)
  have HA := Lib.hid (fun w he => atoi_any X2 (by rw [Lib.size_eq, y2]; have h3 : tl.length ≤ B.data.toList.length := hl.2; omega) w he)
  rw [y1] at HP
  rw [y2] at HA
  replace HX : Hid (∀ w, Mx w → Calls Tryd.prog 28 #[.string B, .string ⟨#[42, 50, 94]⟩] w fun e w' => e = .returned (.tuple #[.string X1, .string X2, .bool ok]) ∧ Below w.heap.size w w') := Lib.hid (fun w hm => by rw [← hX1, ← hX2]; exact HX.out w hm)
  obtain ⟨r1, hr1⟩ : ∃ r, endOpt (parseUintB 53 hd) = r := ⟨_, rfl⟩
  obtain ⟨r2, hr2⟩ : ∃ r, aOpt (atoiAll tl) = r := ⟨_, rfl⟩
  have HE1 : Hid (∀ n, r1 = some n → ∃ k : Nat, n = k ∧ k < 2 ^ 53) := Lib.hid (fun n h => end_bound (hr1.trans h))
  simp only [hr1] at HP HN HG
  simp only [hr2] at HA HN HG
  clear hC hp hm he hsz n0 n1 n2 hs hl hcut hX1 hX2 y1 y2 hr1 hr2
  go_enter Tryd.func9, Tryd.ntmps9
  go_wp2_with (first
    | (go_at_call 25; refine (HC.out _).mono ?_; rintro e w' ⟨rfl, rfl⟩))
  refine (HX.out _ HM.out).mono ?_
  rintro e w1 ⟨rfl, hb⟩
  have K1 := Lib.hid hb
  clear hb HX
  go_wp2_with fail
  refine (HP.out _ (HE.out.stays K1.out)).mono ?_
  rintro e w2 ⟨hq1, hb⟩
  have K2 := Lib.hid (K1.out.trans (hb.mono K1.out.size))
  clear hb K1 HP
  cases r1 with
  | none =>
    obtain ⟨u1, u2, u3, rfl⟩ := hq1
    go_wp2_with fail
    refine (HA.out _ (HE.out.stays K2.out)).mono ?_
    rintro e w3 ⟨hq2, hb⟩
    have K3 := Lib.hid (K2.out.trans (hb.mono K2.out.size))
    clear hb K2 HA
    have HNo : Hid (TxtOk s.data.toList 0 false) := Lib.hid (.no (HN.out (fun hg => by obtain ⟨_, n, e, h, _⟩ := hg; cases h)))
    clear HN HG
    cases r2 with
    | none =>
      obtain ⟨v1, v2, v3, rfl⟩ := hq2
      cases ok with
      | false =>
        go_wp2_with fail
        go_ret2
        exact ⟨_, _, rfl, HNo.out, K3.out⟩
      | true =>
        go_wp2_with fail
        go_ret2
        exact ⟨_, _, rfl, HNo.out, K3.out⟩
    | some e2 =>
      obtain rfl := hq2
      cases ok with
      | false =>
        go_wp2_with fail
        go_ret2
        exact ⟨_, _, rfl, HNo.out, K3.out⟩
      | true =>
        go_wp2_with fail
        go_ret2
        exact ⟨_, _, rfl, HNo.out, K3.out⟩
  | some n1 =>
    obtain rfl := hq1
    go_wp2_with fail
    refine (HA.out _ (HE.out.stays K2.out)).mono ?_
    rintro e w3 ⟨hq2, hb⟩
    have K3 := Lib.hid (K2.out.trans (hb.mono K2.out.size))
    clear hb K2 HA
    cases r2 with
    | none =>
      obtain ⟨v1, v2, v3, rfl⟩ := hq2
      have HNo : Hid (TxtOk s.data.toList 0 false) := Lib.hid (.no (HN.out (fun hg => by obtain ⟨_, n, e, _, h, _⟩ := hg; cases h)))
      clear HN HG
      cases ok with
      | false =>
        go_wp2_with fail
        go_ret2
        exact ⟨_, _, rfl, HNo.out, K3.out⟩
      | true =>
        go_wp2_with fail
        go_ret2
        exact ⟨_, _, rfl, HNo.out, K3.out⟩
    | some e2 =>
      obtain rfl := hq2
      cases ok with
      | false =>
        have HNo : Hid (TxtOk s.data.toList 0 false) := Lib.hid (.no (HN.out (fun hg => by have h := hg.1; cases h)))
        clear HN HG
        go_wp2_with fail
        go_ret2
        exact ⟨_, _, rfl, HNo.out, K3.out⟩
      | true =>
        by_cases hin : -2000 ≤ e2 ∧ e2 ≤ 2000
        · obtain ⟨k, rfl, hk⟩ := HE1.out n1 rfl
          obtain ⟨r0, i1, i2, i3, i4, i5⟩ := int_nat k hk
          have HLx := Lib.hid (fun w => Ldexp_any r0 e2 (by rcases Nat.eq_zero_or_pos k with z | z; · exact .inl (i5 z)
                                                            · exact .inr ⟨i4 z, i1⟩) hin.1 hin.2 w)
          have HG2 := Lib.hid (fun r hL => HG.out k e2 rfl rfl hk r0 r i3 hL hin.1)
          have HIn := Lib.hid (fun w => in_any e2 (-2000) 2000 w)
          rw [inB_true hin] at HIn
          clear HN HG HE1 i1 i3 i4 i5 hk hin
          go_wp2_with (first
            | (go_at_call 31; refine (HIn.out _).mono ?_; rintro e w' ⟨rfl, rfl⟩))
          refine (HLx.out _).mono ?_
          rintro e w4 ⟨rr, rfl, hL, rfl⟩
          have hbest := HG2.out rr hL
          clear HG2
          cases mi with
          | false =>
            
            
            have HB : Hid (Best s.data.toList rr) := Lib.hid (by exact hbest)
            
            clear hbest hL HLx
            go_wp2_with fail
            refine (HR.out rr (HB.out.1) _ (HW.out.stays K3.out)).mono ?_
            rintro e w9 ⟨t, rfl, t1, t2, t3⟩
            have K9 := Lib.hid (K3.out.trans (t3.mono K3.out.size))
            obtain ⟨z1, z2⟩ := HB.out.tail t1
            obtain ⟨b9, hb9⟩ : ∃ b : ByteArray, (⟨t.toArray⟩ : ByteArray) = b := ⟨_, rfl⟩
            have hl9 : b9.toList = t := by rw [← hb9, ByteArray.toList_eq]
            rw [hb9]
            cases hq : (t == s.data.toList) with
            | true =>
              have HZ := Lib.hid (z1 hq)
              have hq2 : (b9.toList == s.toList) = true := by rw [hl9, ByteArray.toList_eq s]; exact hq
              clear t1 t2 t3 z1 z2 hb9 hl9 hq
              go_wp2_with fail
              go_ret2
              exact ⟨_, _, rfl, HZ.out, K9.out⟩
            | false =>
              have HZ := Lib.hid (z2 hq)
              have hq2 : (b9.toList == s.toList) = false := by rw [hl9, ByteArray.toList_eq s]; exact hq
              clear t1 t2 t3 z1 z2 hb9 hl9 hq
              go_wp2_with fail
              go_ret2
              exact ⟨_, _, rfl, HZ.out, K9.out⟩

          | true =>
            have rn := fun w => run_neg rr w
            obtain ⟨z, hz⟩ : ∃ z, Op.negFloat .f64 rr = z := ⟨_, rfl⟩
            have HB : Hid (Best s.data.toList z) := Lib.hid (by rw [← hz]; exact hbest)
            rw [hz] at rn; clear hz
            clear hbest hL HLx
            go_wp2_with fail
            refine (HR.out z (HB.out.1) _ (HW.out.stays K3.out)).mono ?_
            rintro e w9 ⟨t, rfl, t1, t2, t3⟩
            have K9 := Lib.hid (K3.out.trans (t3.mono K3.out.size))
            obtain ⟨z1, z2⟩ := HB.out.tail t1
            obtain ⟨b9, hb9⟩ : ∃ b : ByteArray, (⟨t.toArray⟩ : ByteArray) = b := ⟨_, rfl⟩
            have hl9 : b9.toList = t := by rw [← hb9, ByteArray.toList_eq]
            rw [hb9]
            cases hq : (t == s.data.toList) with
            | true =>
              have HZ := Lib.hid (z1 hq)
              have hq2 : (b9.toList == s.toList) = true := by rw [hl9, ByteArray.toList_eq s]; exact hq
              clear t1 t2 t3 z1 z2 hb9 hl9 hq
              go_wp2_with fail
              go_ret2
              exact ⟨_, _, rfl, HZ.out, K9.out⟩
            | false =>
              have HZ := Lib.hid (z2 hq)
              have hq2 : (b9.toList == s.toList) = false := by rw [hl9, ByteArray.toList_eq s]; exact hq
              clear t1 t2 t3 z1 z2 hb9 hl9 hq
              go_wp2_with fail
              go_ret2
              exact ⟨_, _, rfl, HZ.out, K9.out⟩

        · have HNo : Hid (TxtOk s.data.toList 0 false) := Lib.hid (.no (HN.out (fun hg => by
            obtain ⟨_, n, e, _, h, h3, h4⟩ := hg
            obtain rfl := Option.some.inj h
            exact hin ⟨h3, h4⟩)))
          have HIn := Lib.hid (fun w => in_any e2 (-2000) 2000 w)
          rw [inB_false hin] at HIn
          clear HN HG HE1 hin
          go_wp2_with (first
            | (go_at_call 31; refine (HIn.out _).mono ?_; rintro e w' ⟨rfl, rfl⟩))
          go_ret2
          exact ⟨_, _, rfl, HNo.out, K3.out⟩

theorem impl_read (s : ByteArray) (hs : s.size ≤ 4000000) (w : World) (hp : Pow w) (hm : Mx w) (he : Errs w) : Calls Tryd.prog 9 #[.string s] w (ReadRes s.data.toList w) := by
  have hS := split_of s.data.toList
  have hC := fun w => cutPrefix_any s w
  obtain ⟨mi, hmi⟩ : ∃ b, Lib.hasPrefix s.data.toList [45] = b := ⟨_, rfl⟩
  obtain ⟨u, hu⟩ : ∃ u, Lib.trimPrefix s.data.toList [45] = u := ⟨_, rfl⟩
  have hlen : u.length ≤ s.data.toList.length := by
    rw [← hu]
    unfold Lib.trimPrefix
    split
    · rw [List.length_drop]; omega
    · omega
  rw [hmi, hu] at hS hC
  rw [Lib.size_eq] at hs
  by_cases h0 : u = [110, 97, 110]
  · exact ir_nan s _ mi hC (by rw [ByteArray.toList_mk, h0]; rfl) (best_nan (h0 ▸ hS)) w hp
  have b0 : ((⟨u.toArray⟩ : ByteArray).toList == [110, 97, 110]) = false := by rw [ByteArray.toList_mk]; exact beq_eq_false_iff_ne.2 h0
  by_cases h1 : u = [105, 110, 102]
  · exact ir_inf s _ mi hC b0 (by rw [ByteArray.toList_mk, h1]; rfl) (best_inf (h1 ▸ hS)) w hp
  have b1 : ((⟨u.toArray⟩ : ByteArray).toList == [105, 110, 102]) = false := by rw [ByteArray.toList_mk]; exact beq_eq_false_iff_ne.2 h1
  by_cases h2 : u = [48]
  · exact ir_zero s _ mi hC b0 b1 (by rw [ByteArray.toList_mk, h2]; rfl) (best_zero (h2 ▸ hS)) w hp
  have b2 : ((⟨u.toArray⟩ : ByteArray).toList == [48]) = false := by rw [ByteArray.toList_mk]; exact beq_eq_false_iff_ne.2 h2
  exact ir_body s ⟨u.toArray⟩ mi hC (by rw [Lib.size_eq]; show u.length ≤ _; omega) b0 b1 b2 hS w hp hm he
end Go.Proofs.YtcjlkekekalgdaaDoor.txt
