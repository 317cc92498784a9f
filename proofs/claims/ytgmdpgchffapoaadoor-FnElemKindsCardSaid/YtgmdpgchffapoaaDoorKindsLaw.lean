/-
  What a contact, what a coil has; 'impl.ElemName'; 'impl.elemOk', 'impl.ElemText' of what is neither.
  Conditions: the variables 'devSizes', 'devWords', 'coilNames' hold what they are laid with.
-/
import Derived.Test.YtgmdpgchffapoaaDoorElemT
import Derived.Test.YtgmdpgchffapoaaDoorElemD
import Derived.Test.YtgmdpgchffapoaaDoorElemPure
import Derived.Test.YtgmdpgchffapoaaDoorElemV
import Derived.Test.YtgmdpgchffapoaaDoorHxS
namespace Go.Proofs.YtgmdpgchffapoaaDoor.dev
open Go Go.RowKit Go.Proofs.YtgmdpgchffapoaaDoor.part Go.Proofs.YtgmdpgchffapoaaDoor.CutEk Go.Proofs.YtgmdpgchffapoaaDoorW.PrintWords
set_option linter.unusedVariables false
set_option linter.unusedSimpArgs false

theorem and_of {a b : Bool} (h : (a && b) = true) : a = true ∧ b = true := by simpa using h
theorem or_of {a b : Bool} (h : (a || b) = true) : a = true ∨ b = true := by simpa using h
def tok (x : Tri) : Bool := dok x.1 x.2.1 x.2.2
theorem kis_tok {x : Tri} {zs : List Int} (h : tKis x zs = true) : tok x = true := by
  unfold tKis kis at h
  exact (and_of h).1
theorem bit_tok {x : Tri} (h : tBit x = true) : tok x = true := kis_tok h
theorem whole_tok {x : Tri} (h : tWhole x = true) : tok x = true := kis_tok h
theorem real_tok {x : Tri} (h : tReal x = true) : tok x = true := kis_tok h
theorem pre_tok {x : Tri} (h : preset x = true) : tok x = true := by
  unfold preset at h
  exact kis_tok (and_of h).1
theorem alls {l : List Tri} {f : Tri → Bool} (h : l.all f = true) (hf : ∀ x, f x = true → tok x = true) : l.all tok = true :=
  List.all_eq_true.2 fun x hx => hf x (List.all_eq_true.1 h x hx)
theorem one_tok {l : List Tri} (hl : l.length = 1) (h : tok (l.getD 0 zT) = true) : l.all tok = true := by
  obtain ⟨x, rfl⟩ := kit.list1 hl
  simpa using h
theorem two_tok {l : List Tri} (hl : l.length = 2) (h : tok (l.getD 0 zT) = true) (h1 : tok (l.getD 1 zT) = true) : l.all tok = true := by
  obtain ⟨x, y, rfl⟩ := kit.list2 hl
  simp at h h1 ⊢
  exact ⟨h, h1⟩
theorem drop_tok {l : List Tri} (hl : 1 ≤ l.length) (h : tok (l.getD 0 zT) = true) (h1 : (l.drop 1).all tok = true) : l.all tok = true := by
  cases l with
  | nil => simp at hl
  | cons x r =>
    simp at h h1 ⊢
    exact ⟨h, h1⟩
theorem contact_ok {op : Int} {l : List Tri} (h : contact op l = true) : (1 ≤ op ∧ op ≤ 10) ∧ (l.length : Int) = arity op ∧ l.all tok = true := by
  unfold contact at h
  simp only [Bool.and_eq_true, decide_eq_true_eq] at h
  obtain ⟨⟨h1, h2⟩, h3⟩ := h
  have hop : 1 ≤ op ∧ op ≤ 10 := of_decide_eq_true h1
  refine ⟨hop, h2, ?_⟩
  by_cases o2 : op ≤ 2
  · rw [if_pos o2] at h3
    have ha : arity op = 1 := by unfold arity; rw [if_pos (by omega)]
    exact one_tok (by omega) (bit_tok h3)
  rw [if_neg o2] at h3
  have ha : arity op = 2 := by unfold arity; rw [if_neg (by omega), if_neg (by omega), if_pos (by omega)]
  by_cases o4 : op ≤ 4
  · rw [if_pos o4, Bool.and_eq_true] at h3
    exact two_tok (by omega) (bit_tok h3.1) (kis_tok h3.2)
  · rw [if_neg o4, Bool.or_eq_true] at h3
    rcases h3 with h3 | h3
    · exact alls h3 fun _ => whole_tok
    · exact alls h3 fun _ => real_tok
theorem coil_ok {op : Int} {l : List Tri} (h : coil op l = true) : (21 ≤ op ∧ op ≤ 37) ∧ (l.length : Int) = arity op ∧ l.all tok = true := by
  unfold coil at h
  simp only [Bool.and_eq_true, decide_eq_true_eq] at h
  obtain ⟨⟨h1, h2⟩, h3⟩ := h
  have hop : 21 ≤ op ∧ op ≤ 37 := of_decide_eq_true h1
  refine ⟨hop, h2, ?_⟩
  have hk : op = 21 ∨ op = 22 ∨ op = 23 ∨ op = 24 ∨ op = 25 ∨ op = 26 ∨ op = 27 ∨ op = 28 ∨ op = 29 ∨ op = 30 ∨ op = 31 ∨ op = 32 ∨ op = 33 ∨ op = 34 ∨ op = 35 ∨ op = 36 ∨ op = 37 := by omega
  clear h1 hop
  rcases hk with rfl | rfl | rfl | rfl | rfl | rfl | rfl | rfl | rfl | rfl | rfl | rfl | rfl | rfl | rfl | rfl | rfl
  · have hl : l.length = 1 := by have e : arity 21 = 1 := (by decide); rw [e] at h2; omega
    exact one_tok hl (kis_tok h3)
  · have hl : l.length = 1 := by have e : arity 22 = 1 := (by decide); rw [e] at h2; omega
    exact one_tok hl (kis_tok h3)
  · have hl : l.length = 1 := by have e : arity 23 = 1 := (by decide); rw [e] at h2; omega
    exact one_tok hl (kis_tok h3)
  · have hl : l.length = 2 := by have e : arity 24 = 2 := (by decide); rw [e] at h2; omega
    obtain ⟨a, b⟩ := and_of (show (tKis (l.getD 0 zT) [2, 3] && tKis (l.getD 1 zT) [5]) = true from h3)
    exact two_tok hl (kis_tok a) (kis_tok b)
  · have hl : l.length = 1 := by have e : arity 25 = 1 := (by decide); rw [e] at h2; omega
    exact one_tok hl (kis_tok h3)
  · have hl : l.length = 2 := by have e : arity 26 = 2 := (by decide); rw [e] at h2; omega
    obtain ⟨a, b⟩ := and_of (show (tKis (l.getD 0 zT) [7] && preset (l.getD 1 zT)) = true from h3)
    exact two_tok hl (kis_tok a) (pre_tok b)
  · have hl : l.length = 2 := by have e : arity 27 = 2 := (by decide); rw [e] at h2; omega
    obtain ⟨a, b⟩ := and_of (show (tKis (l.getD 0 zT) [7] && preset (l.getD 1 zT)) = true from h3)
    exact two_tok hl (kis_tok a) (pre_tok b)
  · have hl : l.length = 2 := by have e : arity 28 = 2 := (by decide); rw [e] at h2; omega
    obtain ⟨a, b⟩ := and_of (show (tKis (l.getD 0 zT) [7] && preset (l.getD 1 zT)) = true from h3)
    exact two_tok hl (kis_tok a) (pre_tok b)
  · have hl : l.length = 2 := by have e : arity 29 = 2 := (by decide); rw [e] at h2; omega
    obtain ⟨a, b⟩ := and_of (show (tKis (l.getD 0 zT) [8] && preset (l.getD 1 zT)) = true from h3)
    exact two_tok hl (kis_tok a) (pre_tok b)
  · have hl : l.length = 2 := by have e : arity 30 = 2 := (by decide); rw [e] at h2; omega
    rcases or_of (show (tKis (l.getD 0 zT) [9] && (l.drop 1).all tWhole || tKis (l.getD 0 zT) [10] && (l.drop 1).all tReal) = true from h3) with h | h
    · obtain ⟨a, b⟩ := and_of h
      exact drop_tok (by omega) (kis_tok a) (alls b fun _ => whole_tok)
    · obtain ⟨a, b⟩ := and_of h
      exact drop_tok (by omega) (kis_tok a) (alls b fun _ => real_tok)
  · have hl : l.length = 3 := by have e : arity 31 = 3 := (by decide); rw [e] at h2; omega
    rcases or_of (show (tKis (l.getD 0 zT) [9] && (l.drop 1).all tWhole || tKis (l.getD 0 zT) [10] && (l.drop 1).all tReal) = true from h3) with h | h
    · obtain ⟨a, b⟩ := and_of h
      exact drop_tok (by omega) (kis_tok a) (alls b fun _ => whole_tok)
    · obtain ⟨a, b⟩ := and_of h
      exact drop_tok (by omega) (kis_tok a) (alls b fun _ => real_tok)
  · have hl : l.length = 3 := by have e : arity 32 = 3 := (by decide); rw [e] at h2; omega
    rcases or_of (show (tKis (l.getD 0 zT) [9] && (l.drop 1).all tWhole || tKis (l.getD 0 zT) [10] && (l.drop 1).all tReal) = true from h3) with h | h
    · obtain ⟨a, b⟩ := and_of h
      exact drop_tok (by omega) (kis_tok a) (alls b fun _ => whole_tok)
    · obtain ⟨a, b⟩ := and_of h
      exact drop_tok (by omega) (kis_tok a) (alls b fun _ => real_tok)
  · have hl : l.length = 3 := by have e : arity 33 = 3 := (by decide); rw [e] at h2; omega
    rcases or_of (show (tKis (l.getD 0 zT) [9] && (l.drop 1).all tWhole || tKis (l.getD 0 zT) [10] && (l.drop 1).all tReal) = true from h3) with h | h
    · obtain ⟨a, b⟩ := and_of h
      exact drop_tok (by omega) (kis_tok a) (alls b fun _ => whole_tok)
    · obtain ⟨a, b⟩ := and_of h
      exact drop_tok (by omega) (kis_tok a) (alls b fun _ => real_tok)
  · have hl : l.length = 3 := by have e : arity 34 = 3 := (by decide); rw [e] at h2; omega
    rcases or_of (show (tKis (l.getD 0 zT) [9] && (l.drop 1).all tWhole || tKis (l.getD 0 zT) [10] && (l.drop 1).all tReal) = true from h3) with h | h
    · obtain ⟨a, b⟩ := and_of h
      exact drop_tok (by omega) (kis_tok a) (alls b fun _ => whole_tok)
    · obtain ⟨a, b⟩ := and_of h
      exact drop_tok (by omega) (kis_tok a) (alls b fun _ => real_tok)
  · have hl : l.length = 3 := by have e : arity 35 = 3 := (by decide); rw [e] at h2; omega
    obtain ⟨a, b⟩ := and_of (show (tKis (l.getD 0 zT) [9] && (l.drop 1).all tWhole) = true from h3)
    exact drop_tok (by omega) (kis_tok a) (alls b fun _ => whole_tok)
  · have hl : l.length = 2 := by have e : arity 36 = 2 := (by decide); rw [e] at h2; omega
    obtain ⟨a, b⟩ := and_of (show (tKis (l.getD 0 zT) [10] && tWhole (l.getD 1 zT)) = true from h3)
    exact two_tok hl (kis_tok a) (whole_tok b)
  · have hl : l.length = 2 := by have e : arity 37 = 2 := (by decide); rw [e] at h2; omega
    obtain ⟨a, b⟩ := and_of (show (tKis (l.getD 0 zT) [9] && tReal (l.getD 1 zT)) = true from h3)
    exact two_tok hl (kis_tok a) (real_tok b)

/-! ### names -/
def cnames : List (List UInt8) := [[111, 117, 116], [115, 101, 116], [114, 101, 115, 101, 116], [112, 117, 108, 115, 101], [115, 116, 101, 112], [116, 105, 109, 101, 114], [104, 111, 108, 100], [108, 97, 116, 101], [99, 111, 117, 110, 116], [109, 111, 118, 101], [97, 100, 100], [115, 117, 98], [109, 117, 108], [100, 105, 118], [114, 101, 109], [114, 101, 97, 108], [119, 104, 111, 108, 101]]
def Names (w : World) : Prop := ∃ b off, w.cell? ⟨1, 0, none⟩ = some (.slice (some ⟨b, off, none⟩) 17 17) ∧ ∀ j, j < 17 → w.cell? ⟨b, off + j, none⟩ = some (.string ⟨(cnames.getD j []).toArray⟩)
theorem Names.below {w w' : World} (h : Names w) (hb : Below w.heap.size w w') : Names w' := by
  obtain ⟨b, off, h1, h2⟩ := h
  exact ⟨b, off, cell_stays h1 hb, fun j hj => cell_stays (h2 j hj) hb⟩
def cname (k : Int) : ByteArray := ⟨(if 21 ≤ k ∧ k ≤ 37 then cnames.getD (k - 21).toNat [] else []).toArray⟩
theorem ret_str {a b : ByteArray} (h : a = b) : Ending.returned (.string a) = .returned (.string b) := by rw [h]
theorem cname_in (k : Int) (h : 21 ≤ k ∧ k ≤ 37) : (cname k).toList.isEmpty = false := by
  unfold cname
  rw [if_pos h]
  have : ∀ j, j < 17 → (⟨(cnames.getD j []).toArray⟩ : ByteArray).toList.isEmpty = false := by decide +kernel
  exact this _ (by omega)
theorem cname_out (k : Int) (h : ¬ (21 ≤ k ∧ k ≤ 37)) : cname k = ⟨#[]⟩ := by
  unfold cname
  rw [if_neg h]
theorem name_any (k : Int) (w : World) (hs : Names w) :
    Calls Tryd.prog 12 #[.int .i64 k] w fun e w' => e = .returned (.string (cname k)) ∧ w = w' := by
  obtain ⟨b, off, hc, hel⟩ := hs
  by_cases h1 : 21 ≤ k ∧ k ≤ 37
  · have hi := inB_true h1
    have he := hel (k - 21).toNat (by omega)
    have hv : Hid ((⟨(cnames.getD (k - 21).toNat []).toArray⟩ : ByteArray) = cname k) := Lib.hid (by rw [cname, if_pos h1])
    obtain ⟨h1, h2⟩ := h1
    generalize (⟨(cnames.getD (k - 21).toNat []).toArray⟩ : ByteArray) = v at *
    clear hel
    skip
    go_enter Tryd.func12, Tryd.ntmps12
    go_wp2_with (go_at_call 14; refine (in_any _ _ _ _).mono ?_; rintro e w' ⟨rfl, rfl⟩)
    go_ret
    exact ⟨ret_str hv.out, rfl⟩
  · have hi := inB_false h1
    have hv : Hid ((⟨#[]⟩ : ByteArray) = cname k) := Lib.hid (cname_out k h1).symm
    clear hel h1
    go_enter Tryd.func12, Tryd.ntmps12
    go_wp2_with (go_at_call 14; refine (in_any _ _ _ _).mono ?_; rintro e w' ⟨rfl, rfl⟩)
    go_ret
    exact ⟨ret_str hv.out, rfl⟩
theorem arity_same (op : Int) (w : World) : Calls Tryd.prog 11 #[.int .i64 op] w fun e w' => e = .returned (.int .i64 (arity op)) ∧ w = w' := by
  go_enter Tryd.func11, Tryd.ntmps11
  go_wp2_with (go_at_call 14; refine (in_any _ _ _ _).mono ?_; rintro e w' ⟨rfl, rfl⟩)
  all_goals
    go_ret
    refine ⟨kit.ret_int ?_, rfl⟩
    simp only [inB, decide_eq_true_eq, decide_eq_false_iff_not, beq_iff_eq, beq_eq_false_iff_ne, ne_eq] at *
    unfold arity
    (repeat' split) <;> omega

/-! ### what is neither -/
theorem contactY (op : Int) (A : Option Addr) (c : Nat) (Y : List S31) (W : World) (hA : Argsat W A (Y.map tr)) (hs : Sizes W) (hw : Words W) :
    Calls Tryd.prog 5 #[.agg #[.int .i64 op, .slice A Y.length c]] W fun e w' => e = .returned (.bool (contact op (Y.map tr))) ∧ Below W.heap.size W w' := by
  have := contact_any op A c (Y.map tr) W hA hs hw
  rwa [List.length_map] at this
theorem coilY (op : Int) (A : Option Addr) (c : Nat) (Y : List S31) (W : World) (hA : Argsat W A (Y.map tr)) (hc : Y.length ≤ c) (hs : Sizes W) (hw : Words W) :
    Calls Tryd.prog 6 #[.agg #[.int .i64 op, .slice A Y.length c]] W fun e w' => e = .returned (.bool (coil op (Y.map tr))) ∧ Below W.heap.size W w' := by
  have := coil_any op A c (Y.map tr) W hA (by rwa [List.length_map]) hs hw
  rwa [List.length_map] at this
theorem scoilY (op : Int) (A : Option Addr) (c : Nat) (Y : List S31) (W : World) (hA : Argsat W A (Y.map tr)) :
    Calls Tryd.prog 8 #[.agg #[.int .i64 op, .slice A Y.length c]] W fun e w' => e = .returned (.bool (coil op (Y.map tr))) ∧ Below W.heap.size W w' := by
  have := scoil_any op A c (Y.map tr) W hA
  rwa [List.length_map] at this
theorem sconY (op : Int) (A : Option Addr) (c : Nat) (Y : List S31) (W : World) (hA : Argsat W A (Y.map tr)) :
    Calls Tryd.prog 7 #[.agg #[.int .i64 op, .slice A Y.length c]] W fun e w' => e = .returned (.bool (contact op (Y.map tr))) ∧ Below W.heap.size W w' := by
  have := scon_any op A c (Y.map tr) W hA
  rwa [List.length_map] at this
theorem argsat_of {w : World} {A : Option Addr} {Y : List S31} (h : Kd.C k31 w A Y.length Y) : Argsat w A (Y.map tr) := by
  rcases Nat.eq_zero_or_pos Y.length with h0 | h0
  · left
    rw [List.eq_nil_of_length_eq_zero h0]
    rfl
  · right
    obtain ⟨ad, e, c0, _⟩ := at_T31 h 0 (by omega) (by omega)
    obtain ⟨b, off, spot⟩ := ad
    have hs : spot = none := by simpa [Addr.add] using World.cell?_spot c0
    subst hs
    refine ⟨b, off, e, fun i hi => ?_⟩
    rw [List.length_map] at hi
    obtain ⟨ad, e2, d0, d1, d2⟩ := at_T31 h (i : Int) (by omega) (by omega)
    obtain rfl := Option.some.inj (e.symm.trans e2)
    rw [Int.toNat_natCast, Go.WideShapes.add_plain] at d0 d1 d2
    have ev : (Y.map tr).getD i zT = tr (rd_T31 Y (i : Int)) := by
      show _ = tr (Y.getD (i : Int).toNat z31)
      simp [hi]
    rw [ev]
    exact ⟨d0, d1, d2⟩
theorem notok (op : Int) (A : Option Addr) (c : Nat) (Y : List S31) (W : World) (hA : Argsat W A (Y.map tr)) (hc : Y.length ≤ c) (hs : Sizes W) (hw : Words W) (h1 : contact op (Y.map tr) = false) (h2 : coil op (Y.map tr) = false) :
    Calls Tryd.prog 29 #[.agg #[.int .i64 op, .slice A Y.length c]] W fun e w' => e = .returned (.bool false) ∧ Below W.heap.size W w' := by
  have HA := Lib.hid (⟨hA, hc, hs, hw⟩ : _ ∧ _ ∧ _ ∧ _)
  have K1 := Lib.hid h1
  have K2 := Lib.hid h2
  clear hA hc hs hw h1 h2
  have H1 := Lib.hid (Hx.box (Hx.nil (Below.refl W.heap.size W)) #[.int .i64 op, .slice A Y.length c] 25)
  go_enter Tryd.func29, Tryd.ntmps29
  go_wp2_with fail
  refine (contactY op A c Y _ (HA.out.1.below H1.out.1) (HA.out.2.2.1.below H1.out.1) (HA.out.2.2.2.below H1.out.1)).mono ?_
  rw [K1.out]
  rintro e w2 ⟨rfl, h2⟩
  have H2 := Lib.hid (H1.out.below h2)
  clear h2 H1
  have c0 := H2.out.cell (g := W.heap.size) (cs := #[.int .i64 op, .slice A Y.length c]) (by simp) 0 rfl
  have c1 := H2.out.cell (g := W.heap.size) (cs := #[.int .i64 op, .slice A Y.length c]) (by simp) 1 rfl
  go_wp2_with fail
  refine (coilY op A c Y _ (HA.out.1.below H2.out.1) HA.out.2.1 (HA.out.2.2.1.below H2.out.1) (HA.out.2.2.2.below H2.out.1)).mono ?_
  rw [K2.out]
  rintro e w3 ⟨rfl, h3⟩
  have H3 := Lib.hid (H2.out.below h3)
  clear h3 H2 c0 c1
  go_wp2_with fail
  go_ret
  exact ⟨rfl, H3.out.1⟩
theorem notext (op : Int) (A : Option Addr) (c : Nat) (Y : List S31) (W : World) (hA : Argsat W A (Y.map tr)) (hc : Y.length ≤ c) (hs : Sizes W) (hw : Words W) (h1 : contact op (Y.map tr) = false) (h2 : coil op (Y.map tr) = false) :
    Calls Tryd.prog 9 #[.agg #[.int .i64 op, .slice A Y.length c]] W fun e w' => e = .returned (.string ⟨#[]⟩) ∧ Below W.heap.size W w' := by
  have HA := Lib.hid (⟨hA, hc, hs, hw⟩ : _ ∧ _ ∧ _ ∧ _)
  have K1 := Lib.hid h1
  have K2 := Lib.hid h2
  clear hA hc hs hw h1 h2
  have H1 := Lib.hid (Hx.box (Hx.nil (Below.refl W.heap.size W)) #[.int .i64 op, .slice A Y.length c] 25)
  go_enter Tryd.func9, Tryd.ntmps9
  go_wp2_with fail
  refine (notok op A c Y _ (HA.out.1.below H1.out.1) HA.out.2.1 (HA.out.2.2.1.below H1.out.1) (HA.out.2.2.2.below H1.out.1) K1.out K2.out).mono ?_
  rintro e w2 ⟨rfl, h2⟩
  have H2 := Lib.hid (H1.out.below h2)
  clear h2 H1
  go_wp2_with fail
  go_ret
  exact ⟨rfl, H2.out.1⟩
end Go.Proofs.YtgmdpgchffapoaaDoor.dev
