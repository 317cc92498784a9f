/-
  'strconv.ParseUint' at base 10 and 53 bits.
  Conditions: a text of at most 2^48 bytes; the two error variables hold something.
-/
import Derived.Shelf.LaysM
import Derived.Shelf.Strconv.Lower
import Derived.Shelf.Strconv.ParseUintEmpty
import Derived.Shelf.Pu.ToError
import Derived.Shelf.Pu.ToErrorRange
import Derived.Lib.Strings
import Derived.Lib.Walk
import Derived.Lib.ConvBytes
import Derived.Lib.ParseIntBMem
import Derived.Lib.Hide
import Derived.Laws.Strings3
import Derived.Laws.Closers25
import Derived.Laws.Closers25b
import Derived.WalkKit
import Derived.BigCall
import Derived.BigGuard
import Derived.Test.YtcjlkekekalgdaaDoorKit
import Derived.Test.YtcjlkekekalgdaaDoorLayQ
namespace Go.Proofs.YtcjlkekekalgdaaDoor.pu
open Go Go.Shelf Go.RowKit
variable {P : Program} {ρ : Ren}

set_option maxHeartbeats 32000000 in
set_option maxRecDepth 100000 in
/-- At 53 bits, a text that is not empty: turned from the kit's walk at 32 bits. -/
theorem parse_b53 (L : Lays.n287 P ρ) (t : ByteArray) (hne : t.size ≠ 0) (hmax : t.size ≤ 9223372036854775806) (w : World) :
    Calls P (ρ.f 287) #[.string t, .int .i64 10, .int .i64 53] w fun e w' => e = .returned (Lib.uintTupleM (ρ.t 167) 9007199254740991 (Lib.parseUintM 9007199254740991 0 t.data.toList)) ∧ w' = Lib.bytesWorld w (ρ.t 5) t := by
  have mixed := L.mixed
  have t9 := L.t9; have a9 := L.a9; have z9 := L.z9; have v9 := L.v9
  have t3 := L.t3; have a3 := L.a3; have z3 := L.z3; have v3 := L.v3
  have t53 := L.t53; have a53 := L.a53; have z53 := L.z53; have v53 := L.v53
  have t75 := L.t75; have a75 := L.a75; have z75 := L.z75; have v75 := L.v75
  have t4 := L.t4; have a4 := L.a4; have z4 := L.z4; have v4 := L.v4
  have t167 := L.t167; have a167 := L.a167; have z167 := L.z167; have v167 := L.v167
  have t5 := L.t5; have a5 := L.a5; have z5 := L.z5; have v5 := L.v5
  have t46 := L.t46; have a46 := L.a46; have z46 := L.z46; have v46 := L.v46
  have t37 := L.t37; have a37 := L.a37; have z37 := L.z37; have v37 := L.v37
  have t0 := L.t0; have a0 := L.a0; have z0 := L.z0; have v0 := L.v0
  have e321 : ∀ args w, (callFunc (ρ.f 321) args).run P w = .ok (.enter (ρ.f 321) args) w := enters_of L.f321 (by kernel_rfl) rfl
  have hemp : t.toList.isEmpty = false := by
    rw [← decide_eq_emptyBytes]
    exact decide_eq_false (fun h => hne (by rw [h]; rfl))
  have hcv := Lib.run_convert_string_bytes (P := P) w (ρ.t 9) (ρ.t 37) (ρ.t 5) t (u := .string) L.t9 L.t37 L.t5
  have hB : ∀ j, j < t.size → (Lib.bytesWorld w (ρ.t 5) t).cell? ⟨w.heap.size, j, none⟩ = some (.int .u8 (t.data.toList.getD j 0).toNat) := fun j hj => Lib.bytesWorld_cell w (ρ.t 5) t j hj
  obtain ⟨W1, hW1⟩ : ∃ W1, W1 = Lib.bytesWorld w (ρ.t 5) t := ⟨_, rfl⟩
  rw [← hW1] at hcv hB ⊢
  clear hW1
  obtain ⟨bs, hL⟩ : ∃ bs, bs = t.data.toList := ⟨_, rfl⟩
  have hLn : bs.length = t.size := by rw [hL, Lib.size_eq]
  rw [← hL] at hB ⊢
  clear hL
  -- 'maxVal := uint64(1)<<uint(bitSize) - 1': its value, for the walk to take
  have hmv : IntKind.u64.wrap (IntKind.u64.wrap 9007199254740992 - 1) = 9007199254740991 := by
    rw [IntKind.wrap_u64, IntKind.wrap_u64]
    decide
  go_enter L.f287, Body.n287_ntmps ρ
  go_wp2
  go_loop [12, 13, 101] (fun vu vn vi => ∃ (k acc : Nat) (a : Int), vu = .bool false ∧ vn = .int .u64 a ∧ vi = .int .i64 k ∧ k ≤ t.size ∧ Hid (a = (acc : Int) ∧ acc ≤ 9007199254740991 ∧ Lib.parseUintM 9007199254740991 0 bs = Lib.parseUintM 9007199254740991 acc (bs.drop k)))
    (fun _ _ vi => t.size - (intOf vi).toNat)
  case atStart => exact ⟨0, 0, 0, rfl, rfl, rfl, by omega, rfl, by omega, rfl⟩
  case round =>
    obtain ⟨k, acc, a, rfl, rfl, rfl, hk, hh⟩ := hrel
    obtain ⟨ha, hacc, hdec⟩ := hh.out
    clear hh
    have a0 : 0 ≤ a := by omega
    have a1 : a ≤ 9007199254740991 := by omega
    by_cases hkn : k < t.size
    · have hc := hB k hkn
      have hdrop : bs.drop k = bs[k]'(by omega) :: bs.drop (k + 1) := List.drop_eq_getElem_cons (by omega)
      have hget : bs.getD k 0 = bs[k]'(by omega) := by simp [List.getD, List.getElem?_eq_getElem (show k < bs.length by omega)]
      rw [hdrop] at hdec
      rw [hget] at hc
      generalize bs[k]'(by omega) = c at hc hdec
      have hc256 : c.toNat < 256 := c.toNat_lt
      clear hB hdrop hget
      by_cases hdig : 48 ≤ c.toNat ∧ c.toNat ≤ 57
      · obtain ⟨hd0, hd1⟩ := hdig
        have hcut : ¬ 1844674407370955162 ≤ acc := by omega
        by_cases hov : 9007199254740991 < acc * 10 + (c.toNat - 48)
        · -- OVER THE SIZE
          have hF : Lib.parseUintM 9007199254740991 acc (c :: bs.drop (k + 1)) = .range := by simp [Lib.parseUintM, hd0, hd1, hcut, hov]
          rw [hF] at hdec
          have iov : 9007199254740991 < a * 10 + ((c.toNat : Int) - 48) := by omega
          clear hcut hacc hF hov ha
          go_wp2
          go_ret2
          exact ⟨rfl, rfl⟩
        · have hF : Lib.parseUintM 9007199254740991 acc (c :: bs.drop (k + 1)) = Lib.parseUintM 9007199254740991 (acc * 10 + (c.toNat - 48)) (bs.drop (k + 1)) := by simp [Lib.parseUintM, hd0, hd1, hcut, hov]
          have HN : Hid (a * 10 + ((c.toNat : Int) - 48) = ((acc * 10 + (c.toNat - 48) : Nat) : Int) ∧ acc * 10 + (c.toNat - 48) ≤ 9007199254740991 ∧ Lib.parseUintM 9007199254740991 0 bs = Lib.parseUintM 9007199254740991 (acc * 10 + (c.toNat - 48)) (bs.drop (k + 1))) := Lib.hid ⟨by omega, by omega, hdec.trans hF⟩
          have iov : a * 10 + ((c.toNat : Int) - 48) ≤ 9007199254740991 := by omega
          clear hcut hacc hF hov hdec ha
          go_wp2
          refine ⟨⟨k + 1, acc * 10 + (c.toNat - 48), a * 10 + ((c.toNat : Int) - 48), rfl, (by first | rfl | (congr 1; omega)), (by first | rfl | (congr 1; omega)), by omega, HN⟩, by simp [intOf]; omega⟩
      · -- NO DIGIT: whatever way the text goes: (0, ErrSyntax)
        have hF : Lib.parseUintM 9007199254740991 acc (c :: bs.drop (k + 1)) = Lib.NumEnd.syntax := by simp [Lib.parseUintM, hdig]
        rw [hF] at hdec
        clear hacc hF ha
        have hv0 := bits_lo_u8 .or (c.toNat : Int) 32
        have hv1 := bits_hi_u8 .or (c.toNat : Int) 32
        have hu0 := bits_lo_u8 .or 95 32       -- at '_' the walk writes the byte out
        have hu1 := bits_hi_u8 .or 95 32
        go_wp2_with (go_at_fn (ρ.f 321); refine (Any.internal_strconv_lower { L with } _ _).mono ?_; rintro e w' ⟨rfl, rfl⟩)
        all_goals go_ret2
        all_goals first | exact ⟨rfl, rfl⟩ | exact ⟨by rw [hdec]; rfl, rfl⟩
    · -- THE BYTES ARE AT AN END
      have hkk : k = t.size := by omega
      subst hkk
      have hF : Lib.parseUintM 9007199254740991 acc (bs.drop t.size) = .ok acc := by rw [List.drop_eq_nil_of_le (by omega)]; rfl
      rw [hF] at hdec
      subst ha
      clear hacc hF a0 a1
      go_wp2
      go_ret2
      exact ⟨rfl, rfl⟩
theorem parse_at53 (t : ByteArray) (hmax : t.size ≤ 9223372036854775806) (w : World) :
    Calls Tryd.prog 50 #[.string t, .int .i64 10, .int .i64 53] w fun e w' => e = .returned (Lib.uintTupleM 81 9007199254740991 (Lib.parseUintB 53 t.data.toList)) ∧ Below w.heap.size w w' := by
  have eM : (2 : Nat) ^ 53 - 1 = 9007199254740991 := by decide
  by_cases h0 : t.size = 0
  · have ht : t = ⟨#[]⟩ := by
      apply ByteArray.ext
      exact Array.eq_empty_of_size_eq_zero h0
    subst ht
    exact (Any.internal_strconv_ParseUint_empty (ρ := Tryd.laysC172_ren) { Tryd.laysC172 with } 10 53 w).mono fun e w' ⟨he, hw⟩ => ⟨he, by subst hw; exact Below.refl _ _⟩
  · have hne : t.data.toList ≠ [] := fun h => h0 (by rw [Lib.size_eq, h]; rfl)
    refine (parse_b53 (ρ := Tryd.laysC172_ren) { Tryd.laysC172 with } t h0 hmax w).mono fun e w' ⟨he, hw⟩ => ⟨?_, by subst hw; exact Lib.bytesWorld_below _ _ _⟩
    rw [he, Lib.parseUintB, if_neg hne, eM]
    rfl
/-- The two error variables hold an interface's value. -/
def Errs (w : World) : Prop := (∃ ev, w.cell? ⟨3, 0, none⟩ = some ev ∧ (ev = .nilIface ∨ ∃ te pe, ev = .iface te pe)) ∧ (∃ ev, w.cell? ⟨4, 0, none⟩ = some ev ∧ (ev = .nilIface ∨ ∃ te pe, ev = .iface te pe))
theorem Errs.stays {w w' : World} (h : Errs w) (hb : Below w.heap.size w w') : Errs w' := by
  obtain ⟨⟨a, h1, h2⟩, ⟨b, h3, h4⟩⟩ := h
  refine ⟨⟨a, ?_, h2⟩, ⟨b, ?_, h4⟩⟩
  · rw [hb.cell (show (⟨3, 0, none⟩ : Addr).block < w.heap.size from Lib.lt_of_cell h1)]; exact h1
  · rw [hb.cell (show (⟨4, 0, none⟩ : Addr).block < w.heap.size from Lib.lt_of_cell h3)]; exact h3
/-- What 'strconv.ParseUint' gives: the number, or some error. -/
def Got (k : IntKind) (r : Option Int) (w : World) (e : Ending) (w' : World) : Prop :=
  (match r with
   | some u => e = .returned (.tuple #[.int k u, .nilIface])
   | none => ∃ z t v, e = .returned (.tuple #[.int k z, .iface t v])) ∧ Below w.heap.size w w'
def endOpt : Lib.NumEnd Nat → Option Int
  | .ok u => some u
  | _ => none
set_option maxHeartbeats 4000000 in
set_option maxRecDepth 100000 in
theorem parseUint53 (s : ByteArray) (hlim : s.size ≤ 281474976710656) (w : World) (he : Errs w) :
    Calls Tryd.prog 29 #[.string s, .int .i64 10, .int .i64 53] w (Got .u64 (endOpt (Lib.parseUintB 53 s.data.toList)) w) := by
  have e16 : ∀ args w, (callFunc 50 args).run Tryd.prog w = .ok (.enter 50 args) w := enters_of Tryd.func50 (by kernel_rfl) rfl
  have e17 : ∀ args w, (callFunc 51 args).run Tryd.prog w = .ok (.enter 51 args) w := enters_of Tryd.func51 (by kernel_rfl) rfl
  have hI := parse_at53 s (by omega) w
  have HE := Lib.hid he
  clear he
  rcases h : Lib.parseUintB 53 s.data.toList with u | _ | _
  ·
    rw [h] at hI
    replace hI : Calls Tryd.prog 50 #[.string s, .int .i64 10, .int .i64 53] w fun e w' => e = .returned (.tuple #[.int .u64 u, .nilIface]) ∧ Below w.heap.size w w' := hI
    clear h
    go_enter Tryd.func29, Tryd.ntmps29
    go_wp2_with (go_at_fn 50; refine hI.mono ?_; rintro e W1 ⟨rfl, hW⟩)
    go_wp2
    go_ret2
    exact ⟨rfl, hW⟩
  ·
    rw [h] at hI
    replace hI : Calls Tryd.prog 50 #[.string s, .int .i64 10, .int .i64 53] w fun e w' => e = .returned (.tuple #[.int .u64 0, .iface 81 (.int .i64 2)]) ∧ Below w.heap.size w w' := hI
    clear h
    go_enter Tryd.func29, Tryd.ntmps29
    go_wp2_with (go_at_fn 50; refine hI.mono ?_)
    rintro e W1 ⟨rfl, hb1⟩
    obtain ⟨ev, hv1, hev⟩ := (HE.out.stays hb1).1
    have HV := Lib.hid hv1
    clear hv1
    go_wp2_with (go_at_fn 51; refine (AnyPu.strconv_toError_syntax (ρ := Tryd.laysPu14_ren) { Tryd.laysPu14 with } ⟨#[80, 97, 114, 115, 101, 85, 105, 110, 116]⟩ s 10 53 ev _ hlim ?_ hev).mono ?_)
    · exact HV.out
    rintro e W2 ⟨N, rfl, h1, h2, h3⟩
    go_wp2
    go_ret2
    exact ⟨⟨_, _, _, rfl⟩, hb1.trans (h3.mono hb1.size)⟩
  ·
    rw [h] at hI
    replace hI : Calls Tryd.prog 50 #[.string s, .int .i64 10, .int .i64 53] w fun e w' => e = .returned (.tuple #[.int .u64 9007199254740991, .iface 81 (.int .i64 1)]) ∧ Below w.heap.size w w' := hI
    clear h
    go_enter Tryd.func29, Tryd.ntmps29
    go_wp2_with (go_at_fn 50; refine hI.mono ?_)
    rintro e W1 ⟨rfl, hb1⟩
    obtain ⟨ev, hv1, hev⟩ := (HE.out.stays hb1).2
    have HV := Lib.hid hv1
    clear hv1
    go_wp2_with (go_at_fn 51; refine (AnyPu.strconv_toError_range (ρ := Tryd.laysPu14_ren) { Tryd.laysPu14 with } ⟨#[80, 97, 114, 115, 101, 85, 105, 110, 116]⟩ s 10 53 ev _ hlim ?_ hev).mono ?_)
    · exact HV.out
    rintro e W2 ⟨N, rfl, h1, h2, h3⟩
    go_wp2
    go_ret2
    exact ⟨⟨_, _, _, rfl⟩, hb1.trans (h3.mono hb1.size)⟩
def aOpt : Lib.NumEnd Int → Option Int
  | .ok u => some u
  | _ => none
theorem atoi_any (s : ByteArray) (hlim : s.size ≤ 281474976710656) (w : World) (he : Errs w) :
    Calls Tryd.prog 30 #[.string s] w (Got .i64 (aOpt (Lib.atoiAll s.data.toList)) w) := by
  rcases h : Lib.atoiAll s.data.toList with v | _ | _
  ·
    refine (Any.strconv_Atoi_ok Tryd.laysC172 s (by omega) v h w).mono ?_
    rintro e w' ⟨rfl, hw⟩
    refine ⟨rfl, ?_⟩
    rcases hw with rfl | ⟨t, rfl⟩
    · exact Below.refl _ _
    · exact Lib.bytesWorld_below _ _ _
  ·
    obtain ⟨ev, hv, hev⟩ := he.1
    refine (Any.strconv_Atoi_syntax Tryd.laysC172 s hlim h ev w hv hev).mono ?_
    rintro e w' ⟨N, rfl, h1, h2, h3⟩
    exact ⟨⟨_, _, _, rfl⟩, h3⟩
  ·
    obtain ⟨ev, hv, hev⟩ := he.2
    refine (Any.strconv_Atoi_range Tryd.laysC172 s hlim h ev w hv hev).mono ?_
    rintro e w' ⟨N, rfl, h1, h2, h3⟩
    exact ⟨⟨_, _, _, rfl⟩, h3⟩
end Go.Proofs.YtcjlkekekalgdaaDoor.pu
