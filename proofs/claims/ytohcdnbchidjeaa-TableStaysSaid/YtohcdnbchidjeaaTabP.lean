/-
  Tables in memory: Get, Put, Drop, Size, Place, Cut.
-/
import Derived.Test.YtohcdnbchidjeaaTabJ
import Derived.Deep.LoopGhost
import Derived.Handy
namespace Go.Proofs.Ytohcdnbchidjeaa
open Go.RowKit
def getR : Option ByteArray → Value
  | some v => .tuple #[.string v, .bool true]
  | none => .tuple #[.string ⟨#[]⟩, .bool false]
set_option maxHeartbeats 1000000 in
theorem get_v (q : ByteArray) (t : Tr) (B : Nat) (p : Option Addr) (w : World) (h : Rep w B t p) (hB : B ≤ w.heap.size) :
    Calls Try.prog 9 #[.agg #[.pointer p], .string q] w fun e w' => e = .returned (getR (t.get q)) ∧ Below w.heap.size w w' := by
  have hR := Rep.alloc h hB (.cells #[.pointer p] 24)
  have hb0 : Below w.heap.size w (w.alloc (.cells #[.pointer p] 24)) := (Below.refl _ _).alloc (Nat.le_refl _) _
  have HR := Lib.hid hR
  have HB0 := Lib.hid hb0
  clear hR hb0
  go_enter Try.func9, Try.ntmps9
  go_wp2
  generalize hW : w.alloc (.cells #[.pointer p] 24) = W at *
  have HW := Lib.hid hW
  clear hW
  go_loopg [6] (t.cnt) (fun m x wr => W = wr ∧ ∃ (t' : Tr) (q' : Option Addr), t'.cnt ≤ m ∧ x = .pointer q' ∧ Rep W B t' q' ∧ t.get q = t'.get q)
  case atStart => exact ⟨rfl, t, p, Nat.le_refl _, rfl, HR.out, rfl⟩
  case round =>
    obtain ⟨rfl, t', q', hm, rfl, hr, hg⟩ := hrel
    have HG := Lib.hid hg
    clear hg
    cases t' with
    | nil =>
      obtain rfl : q' = none := hr
      go_wp2
      go_ret2
      exact ⟨by rw [HG.out]; rfl, HB0.out⟩
    | node l k v r =>
      obtain ⟨b, pl, pr, rfl, _, ⟨h0, h1, _, _, h4, h5⟩, hl, hr⟩ := hr
      have HL := Lib.hid hl
      have HRR := Lib.hid hr
      have HM : Hid (l.cnt + r.cnt + 1 ≤ gk) := Lib.hid hm
      clear hl hr hm
      by_cases c1 : q = k
      · subst c1
        have HF := Lib.hid (show (Tr.node l q v r).get q = some v by simp [Tr.get, kbeq_self])
        go_wp2
        go_ret2
        exact ⟨by rw [HG.out, HF.out]; rfl, HB0.out⟩
      · have d1 : (q.toList == k.toList) = false := (kbeq_false q k).2 c1
        have HE := Lib.hid ((kbeq_false q k).2 c1)
        clear c1
        cases c2 : klt q k
        · have HF := Lib.hid (show (Tr.node l k v r).get q = r.get q by simp [Tr.get, HE.out, c2])
          have d2 : Op.bytesLess q.toList k.toList = false := c2
          clear c2
          go_wp2
          go_roundg (gk - 1)
          case rel => exact ⟨rfl, r, pr, by have := HM.out; omega, rfl, HRR.out, by rw [HG.out, HF.out]⟩
          case measure => have := HM.out; omega
        · have HF := Lib.hid (show (Tr.node l k v r).get q = l.get q by simp [Tr.get, HE.out, c2])
          have d2 : Op.bytesLess q.toList k.toList = true := c2
          clear c2
          go_wp2
          go_roundg (gk - 1)
          case rel => exact ⟨rfl, l, pl, by have := HM.out; omega, rfl, HL.out, by rw [HG.out, HF.out]⟩
          case measure => have := HM.out; omega
def TabPost (w : World) (t : Tr) (e : Ending) (w' : World) : Prop := ∃ p, e = .returned (.agg #[.pointer p]) ∧ Rep w' w'.heap.size t p ∧ Below w.heap.size w w'
theorem box1 (w : World) (v : Value) (T : TypeId) : (w.alloc (.cells #[v] T)).cell? ⟨w.heap.size, 0, none⟩ = some v := by rw [World.cell?_alloc_at _ _ _ _ rfl]; rfl
/-- A store into a block of one cell: no tree is touched. -/
theorem Rep.set1 {w : World} {B g : Nat} (hg : w.cell? ⟨g, 1, none⟩ = none) (o : Nat) (u : Value) : ∀ {t : Tr} {p : Option Addr}, Rep w B t p → Rep (w.setCell ⟨g, o, none⟩ u) B t p
  | .nil, _, h => h
  | .node _ _ _ _, _, ⟨b, pl, pr, hp, hb, ⟨h0, h1, h2, h3, h4, h5⟩, hl, hr⟩ => by
    have hne : g ≠ b := fun e => by subst e; rw [hg] at h1; cases h1
    have hk : ∀ i, (w.setCell ⟨g, o, none⟩ u).cell? ⟨b, i, none⟩ = w.cell? ⟨b, i, none⟩ := fun i => World.cell?_setCell_far w _ _ _ hne
    exact ⟨b, pl, pr, hp, hb, ⟨(hk 0).trans h0, (hk 1).trans h1, (hk 2).trans h2, (hk 3).trans h3, (hk 4).trans h4, (hk 5).trans h5⟩, Rep.set1 hg o u hl, Rep.set1 hg o u hr⟩
theorem keepC {W w1 : World} (hb : Below W.heap.size W w1) {b o : Nat} {x : Option Value} (h : W.cell? ⟨b, o, none⟩ = x) (hlt : b < W.heap.size) : w1.cell? ⟨b, o, none⟩ = x := (hb.cell (p := ⟨b, o, none⟩) hlt).trans h
theorem keepF {W w1 : World} (hb : Below W.heap.size W w1) {b o : Nat} {x : Bool} (h : W.frozen? ⟨b, o, none⟩ = x) (hlt : b < W.heap.size) : w1.frozen? ⟨b, o, none⟩ = x := (hb.frozen (p := ⟨b, o, none⟩) hlt).trans h
theorem box2 (w : World) (v u : Value) (T U : TypeId) : ((w.alloc (.cells #[v] T)).alloc (.cells #[u] U)).cell? ⟨w.heap.size + 1, 0, none⟩ = some u := by rw [World.cell?_alloc_at _ _ _ _ (by simp)]; rfl
theorem size_v (t : Tr) (B : Nat) (p : Option Addr) (w : World) (h : Rep w B t p) (hB : B ≤ w.heap.size) :
    Calls Try.prog 13 #[.agg #[.pointer p]] w fun e w' => e = .returned (.int .i64 (t.cnt : Int)) ∧ Below w.heap.size w w' := by
  go_enter Try.func13, Try.ntmps13
  go_wp2_with fail
  refine (count_v B t p _ (Rep.alloc h hB _)).mono ?_
  rintro e _ ⟨rfl, rfl⟩
  go_wp2
  go_ret
  exact ⟨rfl, (Below.refl _ _).alloc (Nat.le_refl _) _⟩
theorem place_v (q : ByteArray) (t : Tr) (B : Nat) (p : Option Addr) (w : World) (h : Rep w B t p) (hB : B ≤ w.heap.size) (hn : t.cnt ≤ 1000000) :
    Calls Try.prog 26 #[.agg #[.pointer p], .string q] w fun e w' => e = .returned (.int .i64 ((t.cut q).1.cnt : Int)) ∧ Below w.heap.size w w' := by
  have HR := Lib.hid (Rep.alloc h hB (.cells #[.pointer p] 24))
  have HB0 := Lib.hid (show Below w.heap.size w (w.alloc (.cells #[.pointer p] 24)) from (Below.refl _ _).alloc (Nat.le_refl _) _)
  clear h
  go_enter Try.func26, Try.ntmps26
  go_wp2_with fail
  refine (cut_v q t B p _ HR.out (by simp; omega) hn).mono ?_
  rintro e w1 ⟨p1, p2, rfl, r1, r2, hb1⟩
  go_wp2_with fail
  refine (count_v w1.heap.size (t.cut q).1 p1 w1 r1).mono ?_
  rintro e _ ⟨rfl, rfl⟩
  go_wp2
  go_ret
  exact ⟨rfl, btwo HB0.out hb1⟩
def CutTPost (w : World) (t u : Tr) (e : Ending) (w' : World) : Prop :=
  ∃ p1 p2, e = .returned (.tuple #[.agg #[.pointer p1], .agg #[.pointer p2]]) ∧ Rep w' w'.heap.size t p1 ∧ Rep w' w'.heap.size u p2 ∧ Below w.heap.size w w'
theorem cutT_v (q : ByteArray) (t : Tr) (B : Nat) (p : Option Addr) (w : World) (h : Rep w B t p) (hB : B ≤ w.heap.size) (hn : t.cnt ≤ 1000000) :
    Calls Try.prog 25 #[.agg #[.pointer p], .string q] w (CutTPost w (t.cut q).1 (t.cut q).2) := by
  have HR := Lib.hid (Rep.alloc (Rep.alloc (Rep.alloc h hB (.cells #[.pointer p] 24)) (by simp; omega) (.cells #[.pointer none] 24)) (by simp; omega) (.cells #[.pointer none] 24))
  have HB0 := Lib.hid (show Below w.heap.size w (((w.alloc (.cells #[.pointer p] 24)).alloc (.cells #[.pointer none] 24)).alloc (.cells #[.pointer none] 24)) from (((Below.refl _ _).alloc (Nat.le_refl _) _).alloc (by simp) _).alloc (by simp; omega) _)
  clear h
  go_enter Try.func25, Try.ntmps25
  go_wp2_with fail
  refine (cut_v q t B p _ HR.out (by simp; omega) hn).mono ?_
  rintro e w1 ⟨p1, p2, rfl, r1, r2, hb1⟩
  have c4 : w1.cell? ⟨w.heap.size + 1, 0, none⟩ = some (.pointer none) := (hb1.cell (p := ⟨w.heap.size + 1, 0, none⟩) (by simp)).trans (by rw [World.cell?_alloc_lt _ _ _ (by simp), World.cell?_alloc_at _ _ _ _ (by simp)]; rfl)
  have f4 : w1.frozen? ⟨w.heap.size + 1, 0, none⟩ = false := (hb1.frozen (p := ⟨w.heap.size + 1, 0, none⟩) (by simp)).trans (by go_simp)
  have c5 : w1.cell? ⟨w.heap.size + 1 + 1, 0, none⟩ = some (.pointer none) := (hb1.cell (p := ⟨w.heap.size + 1 + 1, 0, none⟩) (by simp)).trans (by rw [World.cell?_alloc_at _ _ _ _ (by simp)]; rfl)
  have f5 : w1.frozen? ⟨w.heap.size + 1 + 1, 0, none⟩ = false := (hb1.frozen (p := ⟨w.heap.size + 1 + 1, 0, none⟩) (by simp)).trans (by go_simp)
  have hsz : w.heap.size + 2 < w1.heap.size := by have := hb1.size; simp at this; omega
  have HB1 := Lib.hid hb1
  have R1 := Lib.hid r1
  have R2 := Lib.hid r2
  clear hb1 r1 r2
  go_wp2
  refine bodyPost_ret (v := .tuple #[.agg #[.pointer p1], .agg #[.pointer p2]]) (by simp [results, Try.results25, go_sem, c4, c5]) rfl ?_
  have n4 : w1.cell? ⟨w.heap.size + 1, 1, none⟩ = none := (HB1.out.cell (p := ⟨w.heap.size + 1, 1, none⟩) (by simp)).trans (by rw [World.cell?_alloc_lt _ _ _ (by simp), World.cell?_alloc_at _ _ _ _ (by simp)]; rfl)
  have n5 : w1.cell? ⟨w.heap.size + 1 + 1, 1, none⟩ = none := (HB1.out.cell (p := ⟨w.heap.size + 1 + 1, 1, none⟩) (by simp)).trans (by rw [World.cell?_alloc_at _ _ _ _ (by simp)]; rfl)
  have n5' : (w1.setCell ⟨w.heap.size + 1, 0, none⟩ (.pointer p1)).cell? ⟨w.heap.size + 1 + 1, 1, none⟩ = none := (World.cell?_setCell_far w1 _ _ _ (show w.heap.size + 1 ≠ w.heap.size + 1 + 1 by omega)).trans n5
  refine ⟨p1, p2, rfl, ?_, ?_, ((btwo HB0.out HB1.out).setCell (by simp) _).setCell (by simp; omega) _⟩
  · have := Rep.set1 n5' 0 (.pointer p2) (Rep.set1 n4 0 (.pointer p1) R1.out)
    simpa using this
  · have := Rep.set1 n5' 0 (.pointer p2) (Rep.set1 n4 0 (.pointer p1) R2.out)
    simpa using this
theorem put_v (k v : ByteArray) (t : Tr) (B : Nat) (p : Option Addr) (w : World) (h : Rep w B t p) (hB : B ≤ w.heap.size) (hn : t.cnt ≤ 999999) (hk : k.size ≤ 140737488355328) :
    Calls Try.prog 10 #[.agg #[.pointer p], .string k, .string v] w (TabPost w (t.put k v)) := by
  have HR := Lib.hid (Rep.alloc (Rep.alloc h hB (.cells #[.pointer p] 24)) (by simp; omega) (.cells #[.pointer none] 24))
  have HB0 := Lib.hid (show Below w.heap.size w ((w.alloc (.cells #[.pointer p] 24)).alloc (.cells #[.pointer none] 24)) from ((Below.refl _ _).alloc (Nat.le_refl _) _).alloc (by simp) _)
  have HC := Lib.hid (cut_cnt t k)
  have HC2 := Lib.hid (cut_cnt (t.cut k).2 (k ++ kzero))
  clear h
  go_enter Try.func10, Try.ntmps10
  go_wp2_with fail
  refine (cut_v k t B p _ HR.out (by simp; omega) (by omega)).mono ?_
  rintro e w1 ⟨p1, p2, rfl, r1, r2, hb1⟩
  go_wp2_with fail
  refine (cut_v (k ++ kzero) (t.cut k).2 w1.heap.size p2 w1 r2 (Nat.le_refl _) (by have := HC.out; omega)).mono ?_
  rintro e w2 ⟨p3, p4, rfl, r3, r4, hb2⟩
  have r1' := r1.step hb2
  clear r1 r2 r3
  go_wp2_with fail
  refine (rank_v k w2 (by unfold maxLen; omega)).mono ?_
  rintro e _ ⟨rfl, rfl⟩
  have rn := Rep.new w2 .nil .nil k v none none 1 rfl rfl rfl 64
  have RN := Lib.hid rn
  have hsz : (w2.alloc (.cells #[.string k, .string v, .int .u32 (rk k : Int), .int .i64 ((1 : Nat) : Int), .pointer none, .pointer none] 64)).heap.size = w2.heap.size + 1 := by simp
  have HSZ := Lib.hid hsz
  have hb3 : Below w2.heap.size w2 (w2.alloc (.cells #[.string k, .string v, .int .u32 (rk k : Int), .int .i64 ((1 : Nat) : Int), .pointer none, .pointer none] 64)) := (Below.refl _ _).alloc (Nat.le_refl _) _
  have HB3 := Lib.hid hb3
  clear rn hsz hb3
  go_wp2_with fail
  refine (join_v _ (t.cut k).1 (.node .nil k v .nil) (w2.heap.size + 1) p1 _ _ (Rep.more (Nat.le_succ _) (r1'.alloc (Nat.le_refl _) _)) RN.out (Nat.le_of_eq HSZ.out.symm) (Nat.le_refl _) (by have := HC.out; simp only [Tr.cnt]; omega)).mono ?_
  rintro e w3 ⟨p5, rfl, r5, hb4⟩
  have hb5 : Below w2.heap.size w2 w3 := btwo HB3.out hb4
  have r4' := r4.step hb5
  have HCJ := Lib.hid (cnt_join (t.cut k).1 (.node .nil k v .nil))
  go_wp2_with fail
  refine (join_v _ _ _ w3.heap.size p5 p4 _ r5 r4' (Nat.le_refl _) (Nat.le_refl _) (by have := HC.out; have := HC2.out; have := HCJ.out; simp only [Tr.cnt] at this; omega)).mono ?_
  rintro e w4 ⟨p6, rfl, r6, hb6⟩
  have hall : Below w2.heap.size w2 w4 := btwo hb5 hb6
  have hz0 : w.heap.size + 1 < w1.heap.size := by have := hb1.size; simp at this; omega
  have c4 : w1.cell? ⟨w.heap.size + 1, 0, none⟩ = some (.pointer none) := (hb1.cell (p := ⟨w.heap.size + 1, 0, none⟩) (by simp)).trans (by rw [World.cell?_alloc_at _ _ _ _ (by simp)]; rfl)
  have f4 : w1.frozen? ⟨w.heap.size + 1, 0, none⟩ = false := (hb1.frozen (p := ⟨w.heap.size + 1, 0, none⟩) (by simp)).trans (by go_simp)
  have hb12 : Below w1.heap.size w1 w4 := btwo hb2 hall
  have k4 : w4.cell? ⟨w.heap.size + 1, 0, none⟩ = some (.pointer none) := (hb12.cell (p := ⟨w.heap.size + 1, 0, none⟩) hz0).trans c4
  have n4 : w4.cell? ⟨w.heap.size + 1, 1, none⟩ = none := (hb12.cell (p := ⟨w.heap.size + 1, 1, none⟩) hz0).trans ((hb1.cell (p := ⟨w.heap.size + 1, 1, none⟩) (by simp)).trans (by rw [World.cell?_alloc_at _ _ _ _ (by simp)]; rfl))
  have N4 := Lib.hid n4
  clear n4
  have g4 : w4.frozen? ⟨w.heap.size + 1, 0, none⟩ = false := (hb12.frozen (p := ⟨w.heap.size + 1, 0, none⟩) hz0).trans f4
  have HB := Lib.hid (btwo (btwo HB0.out hb1) hb12)
  have R6 := Lib.hid r6
  clear c4 f4 hb1 hb2 hb4 hb5 hb6 hall hb12 r4' r5 r6 r1' r4 HB3 HR HSZ RN hz0
  go_wp2
  refine bodyPost_ret (v := .agg #[.pointer p6]) (by simp [results, Try.results10, go_sem, k4]) rfl ?_
  refine ⟨p6, rfl, ?_, HB.out.setCell (by simp) _⟩
  have := Rep.set1 N4.out 0 (.pointer p6) R6.out
  simpa [Tr.put] using this
theorem drop_v (k : ByteArray) (t : Tr) (B : Nat) (p : Option Addr) (w : World) (h : Rep w B t p) (hB : B ≤ w.heap.size) (hn : t.cnt ≤ 999999) (hk : k.size ≤ 140737488355328) :
    Calls Try.prog 14 #[.agg #[.pointer p], .string k] w (TabPost w (t.drop k)) := by
  have h1 := Rep.alloc (Rep.alloc h hB (.cells #[.pointer p] 24)) (by simp; omega) (.cells #[.pointer none] 24)
  have hb0 : Below w.heap.size w ((w.alloc (.cells #[.pointer p] 24)).alloc (.cells #[.pointer none] 24)) := ((Below.refl _ _).alloc (Nat.le_refl _) _).alloc (by simp) _
  have hsz : ((w.alloc (.cells #[.pointer p] 24)).alloc (.cells #[.pointer none] 24)).heap.size = w.heap.size + 2 := by simp
  have c2 : ((w.alloc (.cells #[.pointer p] 24)).alloc (.cells #[.pointer none] 24)).cell? ⟨w.heap.size, 0, none⟩ = some (.pointer p) := by rw [World.cell?_alloc_lt _ _ _ (by simp), World.cell?_alloc_at _ _ _ _ (by simp)]; rfl
  have c4 : ((w.alloc (.cells #[.pointer p] 24)).alloc (.cells #[.pointer none] 24)).cell? ⟨w.heap.size + 1, 0, none⟩ = some (.pointer none) := by rw [World.cell?_alloc_at _ _ _ _ (by simp)]; rfl
  have n4 : ((w.alloc (.cells #[.pointer p] 24)).alloc (.cells #[.pointer none] 24)).cell? ⟨w.heap.size + 1, 1, none⟩ = none := by rw [World.cell?_alloc_at _ _ _ _ (by simp)]; rfl
  have f4 : ((w.alloc (.cells #[.pointer p] 24)).alloc (.cells #[.pointer none] 24)).frozen? ⟨w.heap.size + 1, 0, none⟩ = false := by go_simp
  have HW := Lib.hid (Eq.refl ((w.alloc (.cells #[.pointer p] 24)).alloc (.cells #[.pointer none] 24)))
  generalize hW : (w.alloc (.cells #[.pointer p] 24)).alloc (.cells #[.pointer none] 24) = W at h1 hb0 hsz c2 c4 n4 f4
  have HR := Lib.hid h1
  have HB0 := Lib.hid hb0
  have HSZ := Lib.hid hsz
  have N4 := Lib.hid n4
  have C2 := Lib.hid c2
  have C4 := Lib.hid c4
  have F4 := Lib.hid f4
  have HWW := Lib.hid hW
  clear h h1 hb0 hsz n4 HW hW c2 c4 f4
  have hg := get_v k t B p W HR.out (by have := HSZ.out; omega)
  have HC := Lib.hid (cut_cnt t k)
  have HC2 := Lib.hid (cut_cnt (t.cut k).2 (k ++ kzero))
  cases hx : t.get k with
  | none =>
    have HD := Lib.hid (show t.drop k = t by simp [Tr.drop, hx])
    have HX := Lib.hid hx
    have HG := Lib.hid hg
    clear hx hg
    go_enter Try.func14, Try.ntmps14
    go_wp2_with fail
    rw [HWW.out]
    refine HG.out.mono ?_
    rw [HX.out, show getR none = .tuple #[.string ⟨#[]⟩, .bool false] from rfl]
    rintro e w1 ⟨rfl, hb1⟩
    have hlt0 : w.heap.size < W.heap.size := by have := HSZ.out; omega
    have hlt1 : w.heap.size + 1 < W.heap.size := by have := HSZ.out; omega
    have c2 := keepC hb1 C2.out hlt0
    have c4 := keepC hb1 C4.out hlt1
    have f4 := keepF hb1 F4.out hlt1
    have N1 := Lib.hid (keepC hb1 N4.out hlt1)
    have HB := Lib.hid (HB0.out.trans (hb1.mono (by have := HSZ.out; omega)))
    have R1 := Lib.hid (Rep.below HR.out (hb1.mono (show B ≤ W.heap.size by have := HSZ.out; omega)))
    have HB1 : Hid (B ≤ w1.heap.size) := Lib.hid (Nat.le_trans (by have := HSZ.out; omega) hb1.size)
    clear hb1 hlt0 hlt1
    go_wp2
    refine bodyPost_ret (v := .agg #[.pointer p]) (by simp [results, Try.results14, go_sem, c4]) rfl ?_
    refine ⟨p, rfl, ?_, HB.out.setCell (by simp) _⟩
    have := Rep.set1 N1.out 0 (.pointer p) (Rep.more HB1.out R1.out)
    rw [HD.out]
    simpa using this
  | some u =>
    have HD := Lib.hid (show t.drop k = t.rest k by simp [Tr.drop, hx])
    have HX := Lib.hid hx
    have HG := Lib.hid hg
    clear hx hg
    go_enter Try.func14, Try.ntmps14
    go_wp2_with fail
    rw [HWW.out]
    refine HG.out.mono ?_
    rw [HX.out, show getR (some u) = .tuple #[.string u, .bool true] from rfl]
    rintro e w1 ⟨rfl, hb1⟩
    have hlt0 : w.heap.size < W.heap.size := by have := HSZ.out; omega
    have hlt1 : w.heap.size + 1 < W.heap.size := by have := HSZ.out; omega
    have c2 := keepC hb1 C2.out hlt0
    have C41 := Lib.hid (keepC hb1 C4.out hlt1)
    have F41 := Lib.hid (keepF hb1 F4.out hlt1)
    have N1 := Lib.hid (keepC hb1 N4.out hlt1)
    have HB := Lib.hid (HB0.out.trans (hb1.mono (by have := HSZ.out; omega)))
    have R1 := Lib.hid (Rep.below HR.out (hb1.mono (show B ≤ W.heap.size by have := HSZ.out; omega)))
    have HB1 : Hid (B ≤ w1.heap.size) := Lib.hid (Nat.le_trans (by have := HSZ.out; omega) hb1.size)
    have HLT : Hid (w.heap.size + 1 < w1.heap.size) := Lib.hid (Nat.lt_of_lt_of_le hlt1 hb1.size)
    clear hb1 hlt0 hlt1
    go_wp2_with fail
    refine (cut_v k t B p w1 R1.out HB1.out (by omega)).mono ?_
    rintro e w2 ⟨p1, p2, rfl, r1, r2, hb2⟩
    clear c2
    go_wp2_with fail
    refine (cut_v (k ++ kzero) (t.cut k).2 w2.heap.size p2 w2 r2 (Nat.le_refl _) (by have := HC.out; omega)).mono ?_
    rintro e w3 ⟨p3, p4, rfl, r3, r4, hb3⟩
    have r1' := r1.step hb3
    go_wp2_with fail
    refine (join_v _ _ _ w3.heap.size p1 p4 w3 r1' r4 (Nat.le_refl _) (Nat.le_refl _) (by have := HC.out; have := HC2.out; omega)).mono ?_
    rintro e w4 ⟨p5, rfl, r5, hb4⟩
    have hb : Below w1.heap.size w1 w4 := btwo (btwo hb2 hb3) hb4
    have c4 := keepC hb C41.out HLT.out
    have f4 := keepF hb F41.out HLT.out
    have N2 := Lib.hid (keepC hb N1.out HLT.out)
    have HB2 := Lib.hid (btwo HB.out hb)
    have R5 := Lib.hid r5
    clear r1 r2 r3 r4 r1' r5 hb2 hb3 hb4 hb
    go_wp2
    refine bodyPost_ret (v := .agg #[.pointer p5]) (by simp [results, Try.results14, go_sem, c4]) rfl ?_
    refine ⟨p5, rfl, ?_, HB2.out.setCell (by simp) _⟩
    have := Rep.set1 N2.out 0 (.pointer p5) R5.out
    rw [HD.out]
    simpa [Tr.rest] using this
end Go.Proofs.Ytohcdnbchidjeaa
