/-
  Keys (texts) and their order (the first part of TabM).
-/
import Derived.Laws.Cover1
import Derived.Laws.Strings
namespace Go.Proofs.Ytikegnnlmfidfaa

/-! ## Keys -/
def bl : List UInt8 → List UInt8 → Bool := Op.bytesLess
theorem bl_nil (x : List UInt8) : bl x [] = false := by cases x <;> rfl
theorem bl_nil_cons (b : UInt8) (y : List UInt8) : bl [] (b :: y) = true := rfl
theorem bl_cons (a b : UInt8) (x y : List UInt8) : bl (a :: x) (b :: y) = (decide (a < b) || (a == b && bl x y)) := rfl
theorem u8_lt (a b : UInt8) : a < b ↔ a.toNat < b.toNat := UInt8.lt_iff_toNat_lt
theorem u8_eq (a b : UInt8) : a = b ↔ a.toNat = b.toNat := ⟨fun h => by rw [h], fun h => UInt8.toNat.inj h⟩
theorem bl_cons_iff (a b : UInt8) (x y : List UInt8) : bl (a :: x) (b :: y) = true ↔ a.toNat < b.toNat ∨ (a.toNat = b.toNat ∧ bl x y = true) := by
  rw [bl_cons, Bool.or_eq_true, Bool.and_eq_true, decide_eq_true_eq, u8_lt, beq_iff_eq, u8_eq]
theorem bl_irrefl : ∀ x, bl x x = false
  | [] => rfl
  | a :: x => by
    rw [← Bool.not_eq_true, bl_cons_iff]
    rintro (h | ⟨_, h⟩)
    · omega
    · rw [bl_irrefl x] at h; cases h
theorem bl_trans : ∀ {x y z : List UInt8}, bl x y = true → bl y z = true → bl x z = true
  | x, [], z, h, _ => by rw [bl_nil] at h; cases h
  | _, b :: y, [], _, h => by rw [bl_nil] at h; cases h
  | [], b :: y, c :: z, _, _ => rfl
  | a :: x, b :: y, c :: z, h1, h2 => by
    rw [bl_cons_iff] at *
    rcases h1 with h1 | ⟨h1, h3⟩ <;> rcases h2 with h2 | ⟨h2, h4⟩
    · left; omega
    · left; omega
    · left; omega
    · exact .inr ⟨by omega, bl_trans h3 h4⟩
theorem bl_total : ∀ {x y : List UInt8}, x ≠ y → bl x y = false → bl y x = true
  | [], [], h, _ => absurd rfl h
  | [], b :: y, _, h => by cases h
  | a :: x, [], _, _ => rfl
  | a :: x, b :: y, h, h1 => by
    rw [← Bool.not_eq_true, bl_cons_iff] at h1
    rw [bl_cons_iff]
    by_cases he : a.toNat = b.toNat
    · obtain rfl := (u8_eq _ _).2 he
      refine .inr ⟨rfl, bl_total (fun e => h (by rw [e])) ?_⟩
      rw [← Bool.not_eq_true]
      exact fun h2 => h1 (.inr ⟨rfl, h2⟩)
    · left
      have : ¬ a.toNat < b.toNat := fun h2 => h1 (.inl h2)
      omega
theorem bl_zero : ∀ (x y : List UInt8), bl x (y ++ [0]) = !bl y x
  | [], [] => rfl
  | [], b :: y => by rw [bl_nil]; rfl
  | a :: x, [] => by
    have h : bl (a :: x) ([] ++ [0]) = false := by
      rw [← Bool.not_eq_true]
      show ¬ bl (a :: x) (0 :: []) = true
      rw [bl_cons_iff, bl_nil]
      rintro (h | ⟨_, h⟩)
      · simp at h
      · cases h
    rw [h]; rfl
  | a :: x, b :: y => by
    have ih := bl_zero x y
    have e : ((!bl (b :: y) (a :: x)) = true) ↔ ¬ (b.toNat < a.toNat ∨ (b.toNat = a.toNat ∧ bl y x = true)) := by rw [← bl_cons_iff]; simp
    rw [Bool.eq_iff_iff, List.cons_append, bl_cons_iff, ih, e]
    constructor
    · rintro (h | ⟨h1, h2⟩) (h3 | ⟨h3, h4⟩)
      · omega
      · omega
      · omega
      · rw [h4] at h2; cases h2
    · intro h
      by_cases he : a.toNat = b.toNat
      · refine .inr ⟨he, ?_⟩
        cases h2 : bl y x
        · rfl
        · exact absurd (.inr ⟨he.symm, h2⟩) h
      · left
        have : ¬ b.toNat < a.toNat := fun h2 => h (.inl h2)
        omega
theorem toList_inj {a b : ByteArray} (h : a.toList = b.toList) : a = b := by
  rw [ByteArray.toList_eq, ByteArray.toList_eq] at h
  obtain ⟨a⟩ := a
  obtain ⟨b⟩ := b
  exact congrArg ByteArray.mk (Array.ext' h)
/-- Is a key below another one? -/
def klt (a b : ByteArray) : Bool := Op.bytesLess a.toList b.toList
theorem klt_irrefl (a : ByteArray) : klt a a = false := bl_irrefl _
theorem klt_trans {a b c : ByteArray} (h : klt a b = true) (h' : klt b c = true) : klt a c = true := bl_trans h h'
theorem klt_total {a b : ByteArray} (h : a ≠ b) (h' : klt a b = false) : klt b a = true := bl_total (fun e => h (toList_inj e)) h'
theorem klt_asymm {a b : ByteArray} (h : klt a b = true) : klt b a = false := by
  cases h2 : klt b a
  · rfl
  · have := klt_trans h h2; rw [klt_irrefl] at this; cases this
theorem klt_ne {a b : ByteArray} (h : klt a b = true) : a ≠ b := by rintro rfl; rw [klt_irrefl] at h; cases h
/-- not below, then below: below. -/
theorem klt_of_ge {a b c : ByteArray} (h : klt b a = false) (h' : klt b c = true) : klt a c = true := by
  by_cases e : a = b
  · subst e; exact h'
  · exact klt_trans (klt_total (fun e' => e e'.symm) h) h'
theorem klt_of_lt_ge {a b c : ByteArray} (h : klt a b = true) (h' : klt c b = false) : klt a c = true := by
  by_cases e : c = b
  · subst e; exact h
  · exact klt_trans h (klt_total e h')
theorem kge_trans {a b c : ByteArray} (h : klt b a = false) (h' : klt c b = false) : klt c a = false := by
  cases h2 : klt c a
  · rfl
  · have := klt_of_lt_ge h2 h; rw [this] at h'; cases h'
def kbeq (a b : ByteArray) : Bool := a.toList == b.toList
theorem kbeq_iff (a b : ByteArray) : kbeq a b = true ↔ a = b := by
  unfold kbeq; rw [beq_iff_eq]; exact ⟨toList_inj, fun e => by rw [e]⟩
theorem kbeq_self (a : ByteArray) : kbeq a a = true := (kbeq_iff a a).2 rfl
theorem kbeq_false (a b : ByteArray) : kbeq a b = false ↔ a ≠ b := by rw [← Bool.not_eq_true, kbeq_iff]
def kzero : ByteArray := ⟨#[0]⟩
theorem app_toList (a b : ByteArray) : (a ++ b).toList = a.toList ++ b.toList := by
  rw [ByteArray.toList_eq, ByteArray.toList_eq, ByteArray.toList_eq, ByteArray.data_append, Array.toList_append]
theorem klt_zero (a b : ByteArray) : klt a (b ++ kzero) = !klt b a := by
  unfold klt
  rw [app_toList]
  have : kzero.toList = [0] := by rw [ByteArray.toList_eq]; rfl
  rw [this]
  exact bl_zero _ _
theorem klt_empty (a : ByteArray) : klt a ⟨#[]⟩ = false := by
  unfold klt
  have : (⟨#[]⟩ : ByteArray).toList = [] := by rw [ByteArray.toList_eq]
  rw [this]
  exact bl_nil _

end Go.Proofs.Ytikegnnlmfidfaa
