/-
  'impl.RealRead': the walk.
  Conditions: a text of at most 4000000 bytes; the tables, the error variables and 'bytealg.MaxLen' hold what they hold.
-/
import Derived.Test.YtcjlkekekalgdaaDoorRdI
namespace Go.Proofs.YtcjlkekekalgdaaDoor.txt
open Go Go.RowKit Go.Lib Go.Proofs.YtcjlkekekalgdaaDoor.fl Go.Proofs.YtcjlkekekalgdaaDoor.flo Go.Proofs.YtcjlkekekalgdaaDoor.pu Go.Proofs.YtcjlkekekalgdaaDoor.dev
set_option linter.unusedVariables false
set_option linter.unusedSimpArgs false
set_option maxRecDepth 20000

theorem nan_word (w : World) : Calls Tryd.prog 26 #[] w (Is (.float .f64 9221120237041090561) w) := by
  have hx : ∀ w, (callFunc 48 #[.int .u64 9221120237041090561]).run Tryd.prog w = .ok (.value (.float .f64 9221120237041090561)) w := fun w => frombits_any 9221120237041090561 w
  go_enter Tryd.func26, Tryd.ntmps26
  go_wp2
  go_ret
  exact ⟨rfl, rfl⟩

set_option maxHeartbeats 4000000 in
theorem ir_nan (s B : ByteArray) (mi : Bool) (hC : ∀ w, Calls Tryd.prog 25 #[.string s, .string ⟨#[45]⟩] w (Is (.tuple #[.string B, .bool mi]) w)) (h0 : (B.toList == [110, 97, 110]) = true)
    (hB : Best s.data.toList (if mi then Op.negFloat .f64 NAN else NAN)) (w : World) (hp : Pow w) : Calls Tryd.prog 9 #[.string s] w (ReadRes s.data.toList w) := by
  have HC := Lib.hid hC
  have HW := Lib.hid hp
  have HR := Lib.hid (fun x hx w hp => impl_text x hx w hp)
  clear hC hp
  cases mi with
  | false =>
    have HB : Hid (Best s.data.toList 9221120237041090561) := Lib.hid hB
    clear hB
    go_enter Tryd.func9, Tryd.ntmps9
    go_wp2_with (first
      | (go_at_call 25; refine (HC.out _).mono ?_; rintro e w' ⟨rfl, rfl⟩)
      | (go_at_call 26; refine (nan_word _).mono ?_; rintro e w' ⟨rfl, rfl⟩))
    refine (HR.out 9221120237041090561 (HB.out.1) _ HW.out).mono ?_
    rintro e w9 ⟨t, rfl, t1, t2, t3⟩
    have K9 := Lib.hid (t3)
    obtain ⟨z1, z2⟩ := HB.out.tail t1
    obtain ⟨b9, hb9⟩ : ∃ b : ByteArray, (⟨t.toArray⟩ : ByteArray) = b := ⟨_, rfl⟩
    have hl9 : b9.toList = t := by rw [← hb9, ByteArray.toList_eq]
    rw [hb9]
    cases hq : (t == s.data.toList) with
    | true =>
      have HZ := Lib.hid (z1 hq)
      have hq2 : (b9.toList == s.toList) = true := by rw [hl9, ByteArray.toList_eq s]; exact hq
      clear t1 t2 t3 z1 z2 hb9 hl9 hq
      go_wp2_with fail
      go_ret2
      exact ⟨_, _, rfl, HZ.out, K9.out⟩
    | false =>
      have HZ := Lib.hid (z2 hq)
      have hq2 : (b9.toList == s.toList) = false := by rw [hl9, ByteArray.toList_eq s]; exact hq
      clear t1 t2 t3 z1 z2 hb9 hl9 hq
      go_wp2_with fail
      go_ret2
      exact ⟨_, _, rfl, HZ.out, K9.out⟩
  | true =>
    have HB : Hid (Best s.data.toList (Op.negFloat .f64 9221120237041090561)) := Lib.hid hB
    clear hB
    have rn := fun w => run_neg 9221120237041090561 w
    obtain ⟨z, hz⟩ : ∃ z, Op.negFloat .f64 9221120237041090561 = z := ⟨_, rfl⟩
    rw [hz] at HB
    replace rn : ∀ w, (Op.unary .neg (.float .f64 9221120237041090561)).run Tryd.prog w = .ok (.float .f64 z) w := fun w => by rw [← hz]; exact rn w
    clear hz
    go_enter Tryd.func9, Tryd.ntmps9
    go_wp2_with (first
      | (go_at_call 25; refine (HC.out _).mono ?_; rintro e w' ⟨rfl, rfl⟩)
      | (go_at_call 26; refine (nan_word _).mono ?_; rintro e w' ⟨rfl, rfl⟩))
    refine (HR.out z (HB.out.1) _ HW.out).mono ?_
    rintro e w9 ⟨t, rfl, t1, t2, t3⟩
    have K9 := Lib.hid (t3)
    obtain ⟨z1, z2⟩ := HB.out.tail t1
    obtain ⟨b9, hb9⟩ : ∃ b : ByteArray, (⟨t.toArray⟩ : ByteArray) = b := ⟨_, rfl⟩
    have hl9 : b9.toList = t := by rw [← hb9, ByteArray.toList_eq]
    rw [hb9]
    cases hq : (t == s.data.toList) with
    | true =>
      have HZ := Lib.hid (z1 hq)
      have hq2 : (b9.toList == s.toList) = true := by rw [hl9, ByteArray.toList_eq s]; exact hq
      clear t1 t2 t3 z1 z2 hb9 hl9 hq
      go_wp2_with fail
      go_ret2
      exact ⟨_, _, rfl, HZ.out, K9.out⟩
    | false =>
      have HZ := Lib.hid (z2 hq)
      have hq2 : (b9.toList == s.toList) = false := by rw [hl9, ByteArray.toList_eq s]; exact hq
      clear t1 t2 t3 z1 z2 hb9 hl9 hq
      go_wp2_with fail
      go_ret2
      exact ⟨_, _, rfl, HZ.out, K9.out⟩

set_option maxHeartbeats 4000000 in
theorem ir_inf (s B : ByteArray) (mi : Bool) (hC : ∀ w, Calls Tryd.prog 25 #[.string s, .string ⟨#[45]⟩] w (Is (.tuple #[.string B, .bool mi]) w)) (h0 : (B.toList == [110, 97, 110]) = false) (h1 : (B.toList == [105, 110, 102]) = true)
    (hB : Best s.data.toList (if mi then Op.negFloat .f64 INF else INF)) (w : World) (hp : Pow w) : Calls Tryd.prog 9 #[.string s] w (ReadRes s.data.toList w) := by
  have HC := Lib.hid hC
  have HW := Lib.hid hp
  have HR := Lib.hid (fun x hx w hp => impl_text x hx w hp)
  clear hC hp
  cases mi with
  | false =>
    have HB : Hid (Best s.data.toList 9218868437227405312) := Lib.hid hB
    clear hB
    go_enter Tryd.func9, Tryd.ntmps9
    go_wp2_with (first
      | (go_at_call 25; refine (HC.out _).mono ?_; rintro e w' ⟨rfl, rfl⟩)
      | (go_at_call 27; refine (inf_any _).mono ?_; rintro e w' ⟨rfl, rfl⟩))
    refine (HR.out 9218868437227405312 (HB.out.1) _ HW.out).mono ?_
    rintro e w9 ⟨t, rfl, t1, t2, t3⟩
    have K9 := Lib.hid (t3)
    obtain ⟨z1, z2⟩ := HB.out.tail t1
    obtain ⟨b9, hb9⟩ : ∃ b : ByteArray, (⟨t.toArray⟩ : ByteArray) = b := ⟨_, rfl⟩
    have hl9 : b9.toList = t := by rw [← hb9, ByteArray.toList_eq]
    rw [hb9]
    cases hq : (t == s.data.toList) with
    | true =>
      have HZ := Lib.hid (z1 hq)
      have hq2 : (b9.toList == s.toList) = true := by rw [hl9, ByteArray.toList_eq s]; exact hq
      clear t1 t2 t3 z1 z2 hb9 hl9 hq
      go_wp2_with fail
      go_ret2
      exact ⟨_, _, rfl, HZ.out, K9.out⟩
    | false =>
      have HZ := Lib.hid (z2 hq)
      have hq2 : (b9.toList == s.toList) = false := by rw [hl9, ByteArray.toList_eq s]; exact hq
      clear t1 t2 t3 z1 z2 hb9 hl9 hq
      go_wp2_with fail
      go_ret2
      exact ⟨_, _, rfl, HZ.out, K9.out⟩
  | true =>
    have HB : Hid (Best s.data.toList (Op.negFloat .f64 9218868437227405312)) := Lib.hid hB
    clear hB
    have rn := fun w => run_neg 9218868437227405312 w
    obtain ⟨z, hz⟩ : ∃ z, Op.negFloat .f64 9218868437227405312 = z := ⟨_, rfl⟩
    rw [hz] at HB
    replace rn : ∀ w, (Op.unary .neg (.float .f64 9218868437227405312)).run Tryd.prog w = .ok (.float .f64 z) w := fun w => by rw [← hz]; exact rn w
    clear hz
    go_enter Tryd.func9, Tryd.ntmps9
    go_wp2_with (first
      | (go_at_call 25; refine (HC.out _).mono ?_; rintro e w' ⟨rfl, rfl⟩)
      | (go_at_call 27; refine (inf_any _).mono ?_; rintro e w' ⟨rfl, rfl⟩))
    refine (HR.out z (HB.out.1) _ HW.out).mono ?_
    rintro e w9 ⟨t, rfl, t1, t2, t3⟩
    have K9 := Lib.hid (t3)
    obtain ⟨z1, z2⟩ := HB.out.tail t1
    obtain ⟨b9, hb9⟩ : ∃ b : ByteArray, (⟨t.toArray⟩ : ByteArray) = b := ⟨_, rfl⟩
    have hl9 : b9.toList = t := by rw [← hb9, ByteArray.toList_eq]
    rw [hb9]
    cases hq : (t == s.data.toList) with
    | true =>
      have HZ := Lib.hid (z1 hq)
      have hq2 : (b9.toList == s.toList) = true := by rw [hl9, ByteArray.toList_eq s]; exact hq
      clear t1 t2 t3 z1 z2 hb9 hl9 hq
      go_wp2_with fail
      go_ret2
      exact ⟨_, _, rfl, HZ.out, K9.out⟩
    | false =>
      have HZ := Lib.hid (z2 hq)
      have hq2 : (b9.toList == s.toList) = false := by rw [hl9, ByteArray.toList_eq s]; exact hq
      clear t1 t2 t3 z1 z2 hb9 hl9 hq
      go_wp2_with fail
      go_ret2
      exact ⟨_, _, rfl, HZ.out, K9.out⟩

set_option maxHeartbeats 4000000 in
theorem ir_zero (s B : ByteArray) (mi : Bool) (hC : ∀ w, Calls Tryd.prog 25 #[.string s, .string ⟨#[45]⟩] w (Is (.tuple #[.string B, .bool mi]) w)) (h0 : (B.toList == [110, 97, 110]) = false) (h1 : (B.toList == [105, 110, 102]) = false) (h2 : (B.toList == [48]) = true)
    (hB : Best s.data.toList (if mi then Op.negFloat .f64 0 else 0)) (w : World) (hp : Pow w) : Calls Tryd.prog 9 #[.string s] w (ReadRes s.data.toList w) := by
  have HC := Lib.hid hC
  have HW := Lib.hid hp
  have HR := Lib.hid (fun x hx w hp => impl_text x hx w hp)
  clear hC hp
  cases mi with
  | false =>
    have HB : Hid (Best s.data.toList 0) := Lib.hid hB
    clear hB
    go_enter Tryd.func9, Tryd.ntmps9
    go_wp2_with (first
      | (go_at_call 25; refine (HC.out _).mono ?_; rintro e w' ⟨rfl, rfl⟩))
    refine (HR.out 0 (HB.out.1) _ HW.out).mono ?_
    rintro e w9 ⟨t, rfl, t1, t2, t3⟩
    have K9 := Lib.hid (t3)
    obtain ⟨z1, z2⟩ := HB.out.tail t1
    obtain ⟨b9, hb9⟩ : ∃ b : ByteArray, (⟨t.toArray⟩ : ByteArray) = b := ⟨_, rfl⟩
    have hl9 : b9.toList = t := by rw [← hb9, ByteArray.toList_eq]
    rw [hb9]
    cases hq : (t == s.data.toList) with
    | true =>
      have HZ := Lib.hid (z1 hq)
      have hq2 : (b9.toList == s.toList) = true := by rw [hl9, ByteArray.toList_eq s]; exact hq
      clear t1 t2 t3 z1 z2 hb9 hl9 hq
      go_wp2_with fail
      go_ret2
      exact ⟨_, _, rfl, HZ.out, K9.out⟩
    | false =>
      have HZ := Lib.hid (z2 hq)
      have hq2 : (b9.toList == s.toList) = false := by rw [hl9, ByteArray.toList_eq s]; exact hq
      clear t1 t2 t3 z1 z2 hb9 hl9 hq
      go_wp2_with fail
      go_ret2
      exact ⟨_, _, rfl, HZ.out, K9.out⟩
  | true =>
    have HB : Hid (Best s.data.toList (Op.negFloat .f64 0)) := Lib.hid hB
    clear hB
    have rn := fun w => run_neg 0 w
    obtain ⟨z, hz⟩ : ∃ z, Op.negFloat .f64 0 = z := ⟨_, rfl⟩
    rw [hz] at HB
    replace rn : ∀ w, (Op.unary .neg (.float .f64 0)).run Tryd.prog w = .ok (.float .f64 z) w := fun w => by rw [← hz]; exact rn w
    clear hz
    go_enter Tryd.func9, Tryd.ntmps9
    go_wp2_with (first
      | (go_at_call 25; refine (HC.out _).mono ?_; rintro e w' ⟨rfl, rfl⟩))
    refine (HR.out z (HB.out.1) _ HW.out).mono ?_
    rintro e w9 ⟨t, rfl, t1, t2, t3⟩
    have K9 := Lib.hid (t3)
    obtain ⟨z1, z2⟩ := HB.out.tail t1
    obtain ⟨b9, hb9⟩ : ∃ b : ByteArray, (⟨t.toArray⟩ : ByteArray) = b := ⟨_, rfl⟩
    have hl9 : b9.toList = t := by rw [← hb9, ByteArray.toList_eq]
    rw [hb9]
    cases hq : (t == s.data.toList) with
    | true =>
      have HZ := Lib.hid (z1 hq)
      have hq2 : (b9.toList == s.toList) = true := by rw [hl9, ByteArray.toList_eq s]; exact hq
      clear t1 t2 t3 z1 z2 hb9 hl9 hq
      go_wp2_with fail
      go_ret2
      exact ⟨_, _, rfl, HZ.out, K9.out⟩
    | false =>
      have HZ := Lib.hid (z2 hq)
      have hq2 : (b9.toList == s.toList) = false := by rw [hl9, ByteArray.toList_eq s]; exact hq
      clear t1 t2 t3 z1 z2 hb9 hl9 hq
      go_wp2_with fail
      go_ret2
      exact ⟨_, _, rfl, HZ.out, K9.out⟩

end Go.Proofs.YtcjlkekekalgdaaDoor.txt
