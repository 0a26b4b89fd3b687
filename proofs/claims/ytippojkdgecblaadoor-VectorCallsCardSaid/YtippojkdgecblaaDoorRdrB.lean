/-
  The walks of wire's reader: its methods.
-/
import Derived.Test.YtippojkdgecblaaDoorRdr
import Derived.Test.YtippojkdgecblaaDoorText
namespace Go.Proofs.YtippojkdgecblaaDoor
open Go.RowKit
/-- A reader: its block gr leads to its place's block gp; the bytes l are left, its error is e. -/
structure Rdr (lo : Nat) (w : World) (gp gr : Nat) (A : Option Addr) (n c : Nat) (l : List UInt8) (e : Int) : Prop where
  lt : gp < gr
  top : w.heap[gr]? = some (.cells #[.pointer (some ⟨gp, 0, none⟩)] 82 (0, 0))
  at_ : w.heap[gp]? = some (.cells #[.slice A n c, .int .i64 e, .bool true] 80 (0, 0))
  reads : BReads w gp A n l
  cap : n ≤ c
  small : n ≤ 140737488355328
  low : ∀ ad, A = some ad → lo ≤ ad.block
section
variable {w w' : World} {lo gp gr n c : Nat} {A : Option Addr} {l : List UInt8} {e : Int}
theorem Rdr.ptr (h : Rdr lo w gp gr A n c l e) : w.cell? ⟨gr, 0, none⟩ = some (.pointer (some ⟨gp, 0, none⟩)) := by rw [cell_of_row w gr 0 _ _ _ h.top]; rfl
theorem Rdr.b (h : Rdr lo w gp gr A n c l e) : w.cell? ⟨gp, 0, none⟩ = some (.slice A n c) := by rw [cell_of_row w gp 0 _ _ _ h.at_]; rfl
theorem Rdr.err (h : Rdr lo w gp gr A n c l e) : w.cell? ⟨gp, 1, none⟩ = some (.int .i64 e) := by rw [cell_of_row w gp 1 _ _ _ h.at_]; rfl
theorem Rdr.free (h : Rdr lo w gp gr A n c l e) (i : Nat) : w.frozen? ⟨gp, i, none⟩ = false := by have := h.at_; simp [World.frozen?, this]
theorem Rdr.gplt (h : Rdr lo w gp gr A n c l e) : gp < w.heap.size := (Array.getElem?_eq_some_iff.1 h.at_).1
theorem Rdr.grlt (h : Rdr lo w gp gr A n c l e) : gr < w.heap.size := (Array.getElem?_eq_some_iff.1 h.top).1
theorem Rdr.below (h : Rdr lo w gp gr A n c l e) {B : Nat} (hb : Below B w w') (hB : gr < B) : Rdr lo w' gp gr A n c l e :=
  ⟨h.lt, (hb.block gr hB).trans h.top, (hb.block gp (Nat.lt_trans h.lt hB)).trans h.at_, Reads.below h.reads (hb.mono (Nat.le_of_lt (Nat.lt_trans h.lt hB))), h.cap, h.small, h.low⟩
theorem Rdr.drew (h : Rdr lo w gp gr A n c l e) : Rdr lo w.drew gp gr A n c l e := ⟨h.lt, h.top, h.at_, h.reads, h.cap, h.small, h.low⟩
theorem Rdr.setE (h : Rdr lo w gp gr A n c l e) (e' : Int) : Rdr lo (w.setCell ⟨gp, 1, none⟩ (.int .i64 e')) gp gr A n c l e' := by
  refine ⟨h.lt, (Below.heap_setCell w _ _ gr (Nat.ne_of_gt h.lt)).trans h.top, ?_, Reads.setCell h.reads (Nat.le_refl _) _, h.cap, h.small, h.low⟩
  simp [World.setCell, Array.getElem?_modify, h.at_]
theorem Rdr.setB (h : Rdr lo w gp gr A n c l e) {A' : Option Addr} {n' c' : Nat} {l' : List UInt8} (hr : BReads w gp A' n' l') (hc : n' ≤ c') (hn : n' ≤ 140737488355328) (hlo : ∀ ad, A' = some ad → lo ≤ ad.block) : Rdr lo (w.setCell ⟨gp, 0, none⟩ (.slice A' n' c')) gp gr A' n' c' l' e := by
  refine ⟨h.lt, (Below.heap_setCell w _ _ gr (Nat.ne_of_gt h.lt)).trans h.top, ?_, Reads.setCell hr (Nat.le_refl _) _, hc, hn, hlo⟩
  simp [World.setCell, Array.getElem?_modify, h.at_]
end
set_option maxHeartbeats 1000000 in
theorem new_any (B : Nat) (A : Option Addr) (n c : Nat) (l : List UInt8) (w : World) (hr : BReads w B A n l) (hB : B ≤ w.heap.size) (hn : n ≤ 140737488355328) :
    Calls Tryd.prog 40 #[.slice A n c] w fun e w' => ∃ gp gr A' c', e = .returned (.pointer (some ⟨gr, 0, none⟩)) ∧ w.heap.size ≤ gp ∧ Rdr w.heap.size w' gp gr A' n c' l 0 ∧ Below w.heap.size w w' := by
  go_enter Tryd.func40, Tryd.ntmps40
  go_wp2_with fail
  refine (clone_any B A n c l w hr hB hn).mono ?_
  rintro e w1 ⟨A1, c1, rfl, ho1, hb1⟩
  go_wp2
  go_ret
  refine ⟨w1.heap.size, w1.heap.size + 1, A1, c1, rfl, hb1.size, ⟨Nat.lt_succ_self _, ?_, ?_, Reads.alloc (Reads.alloc ho1.reads (Nat.le_refl _) _) (by simp) _, ho1.2, hn, fun ad had => (ho1.base_le ad.block (by subst had; rfl)).1⟩, (hb1.alloc hb1.size _).alloc (by simp; exact Nat.le_succ_of_le hb1.size) _⟩
  · have := heap_alloc_new (w1.alloc (.cells #[.slice A1 n c1, .int .i64 0, .bool true] 80)) (.cells #[.pointer (some ⟨w1.heap.size, 0, none⟩)] 82)
    simpa using this
  · exact (Below.heap_alloc _ _ _ (by simp)).trans (heap_alloc_new w1 _)
set_option maxHeartbeats 1000000 in
theorem right_any {lo : Nat} (w : World) (gp gr n c : Nat) (A : Option Addr) (l : List UInt8) (e : Int) (h : Rdr lo w gp gr A n c l e) :
    Calls Tryd.prog 69 #[.pointer (some ⟨gr, 0, none⟩)] w fun e' w' => e' = .returned (.bool (e == 0)) ∧ w = w' := by
  have h1 := h.ptr
  have h2 := h.err
  go_enter Tryd.func69, Tryd.ntmps69
  go_wp2
  go_ret
  exact ⟨rfl, rfl⟩
theorem fail_any {lo : Nat} (w : World) (gp gr n c : Nat) (A : Option Addr) (l : List UInt8) (e e' : Int) (h : Rdr lo w gp gr A n c l e) :
    Calls Tryd.prog 71 #[.pointer (some ⟨gp, 0, none⟩), .int .i64 e'] w fun r w' => r = .returned (.tuple #[]) ∧ Rdr lo w' gp gr A n c l e' ∧ w.grownBy w' (some gp) := by
  have h2 := h.err
  have h3 := h.free 1
  go_enter Tryd.func71, Tryd.ntmps71
  go_wp2
  go_end0
  exact ⟨rfl, h.setE e', gb_set (World.grownBy.refl _ _) (.inl rfl) _⟩
theorem left_any {lo : Nat} (w : World) (gp gr n c : Nat) (A : Option Addr) (l : List UInt8) (e : Int) (h : Rdr lo w gp gr A n c l e) :
    Calls Tryd.prog 59 #[.pointer (some ⟨gr, 0, none⟩)] w fun e' w' => e' = .returned (.int .i64 (n : Int)) ∧ w = w' := by
  have h1 := h.ptr
  have h2 := h.b
  go_enter Tryd.func59, Tryd.ntmps59
  go_wp2
  go_ret
  exact ⟨rfl, rfl⟩
theorem err_any {lo : Nat} (w : World) (gp gr n c : Nat) (A : Option Addr) (l : List UInt8) (e : Int) (h : Rdr lo w gp gr A n c l e) :
    Calls Tryd.prog 58 #[.pointer (some ⟨gr, 0, none⟩)] w fun e' w' => e' = .returned (.int .i64 e) ∧ w = w' := by
  have h1 := h.ptr
  have h2 := h.err
  go_enter Tryd.func58, Tryd.ntmps58
  go_wp2
  go_ret
  exact ⟨rfl, rfl⟩
theorem end_any {lo : Nat} (w : World) (gp gr n c : Nat) (A : Option Addr) (l : List UInt8) (e : Int) (h : Rdr lo w gp gr A n c l e) :
    Calls Tryd.prog 42 #[.pointer (some ⟨gr, 0, none⟩)] w fun e' w' => e' = .returned (.int .i64 (rdEnd (l, e))) ∧ w = w' := by
  have hl := h.reads.len
  by_cases he : e = 0
  · subst he
    by_cases hn : 0 < n
    · have hf : Hid (rdEnd (l, 0) = 4) := Lib.hid (by rw [rdEnd, if_neg (by simp), if_pos (by simpa [hl] using hn)])
      clear hl
      go_enter Tryd.func42, Tryd.ntmps42
      go_wp2_with (first | (go_at_call 58; refine (err_any w gp gr n c A l 0 h).mono ?_; rintro e _ ⟨rfl, rfl⟩) | (go_at_call 59; refine (left_any w gp gr n c A l 0 h).mono ?_; rintro e _ ⟨rfl, rfl⟩))
      go_ret
      exact ⟨ret_int hf.out.symm, rfl⟩
    · obtain rfl : n = 0 := by omega
      have hf : Hid (rdEnd (l, 0) = 0) := Lib.hid (by rw [rdEnd, if_neg (by simp), if_neg (by simp [hl])])
      clear hl
      go_enter Tryd.func42, Tryd.ntmps42
      go_wp2_with (first | (go_at_call 58; refine (err_any w gp gr 0 c A l 0 h).mono ?_; rintro e _ ⟨rfl, rfl⟩) | (go_at_call 59; refine (left_any w gp gr 0 c A l 0 h).mono ?_; rintro e _ ⟨rfl, rfl⟩))
      go_ret
      exact ⟨ret_int hf.out.symm, rfl⟩
  · have hb : (e != 0) = true := by rw [bne_iff_ne]; exact he
    have hf : Hid (rdEnd (l, e) = e) := Lib.hid (by rw [rdEnd, if_pos he])
    clear hl
    go_enter Tryd.func42, Tryd.ntmps42
    go_wp2_with (first | (go_at_call 58; refine (err_any w gp gr n c A l e h).mono ?_; rintro e _ ⟨rfl, rfl⟩))
    go_ret
    exact ⟨ret_int hf.out.symm, rfl⟩
/-- A slice's beginning moved on lies in the same block. -/
theorem cut_low {lo c m : Nat} {A A2 : Option Addr} (h : (if c = m then A else Option.map (fun x => x.add m) A) = A2) (hl : ∀ ad, A = some ad → lo ≤ ad.block) : ∀ ad, A2 = some ad → lo ≤ ad.block := by
  intro ad had
  subst h
  split at had
  · exact hl ad had
  · cases A with
    | none => cases had
    | some a => injection had with had; subst had; rw [block_of_add]; exact hl a rfl
theorem rdNum_err (l : List UInt8) (e : Int) (h : e ≠ 0) : rdNum (l, e) = (0, (l, e)) := by rw [rdNum, if_pos h]
theorem rdNum_bad (l : List UInt8) (h : (numR l).2.2 ≠ 0) : rdNum (l, 0) = (0, (l, (numR l).2.2)) := by rw [rdNum, if_neg (by simp), if_pos h]
theorem rdNum_ok (l : List UInt8) (h : (numR l).2.2 = 0) : rdNum (l, 0) = ((numR l).1, (l.drop (numR l).2.1, 0)) := by rw [rdNum, if_neg (by simp), if_neg (by simp [h])]
set_option maxHeartbeats 2000000 in
/-- Reader.Number. -/
theorem rnum_any {lo : Nat} (w : World) (gp gr n c : Nat) (A : Option Addr) (l : List UInt8) (e : Int) (h : Rdr lo w gp gr A n c l e) :
    Calls Tryd.prog 57 #[.pointer (some ⟨gr, 0, none⟩)] w fun r w' => r = .returned (.int .u64 ((rdNum (l, e)).1 : Int)) ∧ (∃ A' n' c', Rdr lo w' gp gr A' n' c' (rdNum (l, e)).2.1 (rdNum (l, e)).2.2) ∧ w.grownBy w' (some gp) := by
  have h1 := h.ptr
  have h2 := h.b
  by_cases he : e = 0
  · subst he
    have hbd := numR_bd l
    by_cases hk : (numR l).2.2 = 0
    · rw [rdNum_ok l hk]
      generalize hx : (numR l).1 = x at *
      generalize hm : (numR l).2.1 = m at *
      have hmn : m ≤ n := by rw [← h.reads.len]; exact hbd.2.1 hk
      have hmc : m ≤ c := Nat.le_trans hmn h.cap
      have hcall : Hid (Calls Tryd.prog 70 #[.slice A n c] w fun e w' => e = .returned (.tuple #[.int .u64 (x : Int), .int .i64 (m : Int), .int .i64 0]) ∧ w = w') := by
        have := numb_any gp A n c l w h.reads h.small
        rw [hx, hm, hk] at this
        exact this
      have hcut := Reads.cut h.reads (k := m) (cap := c) hmn h.cap
      rw [← List.map_drop] at hcut
      simp only [Nat.mul_one] at hcut
      obtain ⟨A2, hif⟩ : ∃ A2, (if c = m then A else Option.map (fun x => x.add m) A) = A2 := ⟨_, rfl⟩
      rw [hif] at hcut
      have hset := Lib.hid (h.setB (c' := c - m) hcut (Nat.sub_le_sub_right h.cap m) (Nat.le_trans (Nat.sub_le _ _) h.small) (cut_low hif h.low)).drew
      have hf0 := h.free 0
      have H := Lib.hid h
      clear h hbd hx hm hk hcut
      go_enter Tryd.func57, Tryd.ntmps57
      go_wp2_with (first | (go_at_call 69; refine (right_any w gp gr n c A l 0 H.out).mono ?_; rintro e _ ⟨rfl, rfl⟩) | (go_at_call 70; refine hcall.out.mono ?_; rintro e _ ⟨rfl, rfl⟩))
      go_region
      all_goals go_wp2
      all_goals go_ret
      all_goals exact ⟨rfl, ⟨_, _, _, hset.out⟩, gb_drew (gb_set (World.grownBy.refl _ _) (.inl rfl) _)⟩
    · rw [rdNum_bad l hk]
      generalize hx : (numR l).1 = x at *
      generalize hm : (numR l).2.1 = m at *
      generalize hke : (numR l).2.2 = k at *
      have hb : (k != 0) = true := by rw [bne_iff_ne]; exact hk
      have hcall : Hid (Calls Tryd.prog 70 #[.slice A n c] w fun e w' => e = .returned (.tuple #[.int .u64 (x : Int), .int .i64 (m : Int), .int .i64 k]) ∧ w = w') := by
        have := numb_any gp A n c l w h.reads h.small
        rw [hx, hm, hke] at this
        exact this
      have H := Lib.hid h
      clear h hbd hx hm hke hk
      go_enter Tryd.func57, Tryd.ntmps57
      go_wp2_with (first | (go_at_call 69; refine (right_any w gp gr n c A l 0 H.out).mono ?_; rintro e _ ⟨rfl, rfl⟩) | (go_at_call 70; refine hcall.out.mono ?_; rintro e _ ⟨rfl, rfl⟩) | (go_at_call 71; refine (fail_any w gp gr n c A l 0 k H.out).mono ?_; rintro e w2 ⟨rfl, hr2, hg2⟩))
      go_ret
      exact ⟨rfl, ⟨_, _, _, hr2⟩, hg2⟩
  · rw [rdNum_err l e he]
    have hb : (e == 0) = false := by rw [beq_eq_false_iff_ne]; exact he
    have H := Lib.hid h
    clear h
    go_enter Tryd.func57, Tryd.ntmps57
    go_wp2_with (first | (go_at_call 69; refine (right_any w gp gr n c A l e H.out).mono ?_; rintro e _ ⟨rfl, rfl⟩))
    go_ret
    exact ⟨rfl, ⟨_, _, _, H.out⟩, World.grownBy.refl _ _⟩
theorem rdPiece_err (l : List UInt8) (e : Int) (h : e ≠ 0) : rdPiece (l, e) = ([], (l, e)) := by rw [rdPiece, if_pos h]
theorem rdPiece_bad (l : List UInt8) (h : pieceE l ≠ 0) : rdPiece (l, 0) = ([], (l, pieceE l)) := by rw [rdPiece, if_neg (by simp), if_pos h]
theorem rdPiece_ok (l : List UInt8) (h : pieceE l = 0) : rdPiece (l, 0) = ((l.drop (numR l).2.1).take (numR l).1, (l.drop ((numR l).2.1 + (numR l).1), 0)) := by rw [rdPiece, if_neg (by simp), if_neg (by simp [h])]
end Go.Proofs.YtippojkdgecblaaDoor
