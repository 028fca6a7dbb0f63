import Derived.Test.YtpgakpeodddnkaaCEncode
import Derived.Test.YtpgakpeodddnkaaCFill
import Derived.Test.YtpgakpeodddnkaaCClone
import Derived.Carry
import Derived.Deep.RegionHeld3
namespace Go.Proofs.Ytpgakpeodddnkaa.C
open Go.RowKit Go.Proofs.YtpgakpeodddnkaaW.PrintWords Go.Proofs.YtpgakpeodddnkaaW.PrintLast Go.Proofs.YtpgakpeodddnkaaW.PrintMore
open Go.ChangeMaps (setBlock)

theorem disk_calls (n : Int) (b : Bool) (hb : (decide (0 ≤ n) && decide (n < 4)) = b) (w : World) : Calls Try.prog 30 #[.int .i64 n] w fun e w' => e = .returned (.bool b) ∧ w = w' := by
  by_cases h : 0 ≤ n
  · obtain rfl : decide (n < 4) = b := by simpa [h] using hb
    go_enter Try.func30, Try.ntmps30
    go_wp2
    go_ret
    exact ⟨rfl, rfl⟩
  · obtain rfl : false = b := by simpa [h] using hb
    have h' : decide (0 ≤ n) = false := by simpa using h
    clear hb
    go_enter Try.func30, Try.ntmps30
    go_wp2
    go_ret
    exact ⟨rfl, rfl⟩

/-- the row parities laid into the grid, and what is lost, line by line -/
def inG (gs l1 : List Int) : Nat → List Int
  | 0 => gs
  | k + 1 => (inG gs l1 k).set (k * 5 + 4) (l1.getD k 0)
def inL (a b : Nat) : Nat → List (Nat × Nat)
  | 0 => []
  | k + 1 => (k, b) :: (k, a) :: inL a b k
theorem inG_len (gs l1 : List Int) (k : Nat) : (inG gs l1 k).length = gs.length := by
  induction k with
  | zero => rfl
  | succ k ih => simp [inG, ih]
theorem inL_lt (a b : Nat) (k : Nat) : ∀ p ∈ inL a b k, p.1 < k := by
  induction k with
  | zero => simp [inL]
  | succ k ih =>
    intro p hp
    simp only [inL, List.mem_cons] at hp
    rcases hp with rfl | rfl | hp
    · simp
    · simp
    · have := ih p hp; omega
theorem solver_set {W : World} {S b m : Nat} (h : SolverAt W S b m) {g : Nat} (hg : S ≠ g) (o : Obj) : SolverAt (setBlock W g o) S b m := (setBlock_ne W o hg).trans h

abbrev St := List Int × List (Nat × Nat)
def fillS (st : St) (l : List S62) (sum : Int) : St := (fillG st.1 st.2 l sum, fillL st.2 l)
def crossS (l2 : List Int) (st : St) : Nat → St
  | 0 => st
  | k + 1 => fillS (crossS l2 st k) (crossesL k) (l2.getD k 0)
def rowS (l1 : List Int) (st : St) : Nat → St
  | 0 => st
  | k + 1 => fillS (rowS l1 st k) (linesL k) (l1.getD k 0)
def roundS (l1 l2 : List Int) (st : St) : St := rowS l1 (crossS l2 st 4) 4
def roundsS (l1 l2 : List Int) (st : St) : Nat → St
  | 0 => st
  | n + 1 => roundS l1 l2 (roundsS l1 l2 st n)
theorem fillG_len (gs : List Int) (L : List (Nat × Nat)) (l : List S62) (sum : Int) : (fillG gs L l sum).length = gs.length := by
  unfold fillG; split <;> simp
theorem crossS_len (l2 : List Int) (st : St) (k : Nat) : (crossS l2 st k).1.length = st.1.length := by
  induction k with
  | zero => rfl
  | succ k ih => simp [crossS, fillS, fillG_len, ih]
theorem rowS_len (l2 : List Int) (st : St) (k : Nat) : (rowS l2 st k).1.length = st.1.length := by
  induction k with
  | zero => rfl
  | succ k ih => simp [rowS, fillS, fillG_len, ih]
theorem roundsS_len (l1 l2 : List Int) (st : St) (k : Nat) : (roundsS l1 l2 st k).1.length = st.1.length := by
  induction k with
  | zero => rfl
  | succ k ih => simp [roundsS, roundS, rowS_len, crossS_len, ih]
/-- what is lost, by itself -/
def crossL (L : List (Nat × Nat)) : Nat → List (Nat × Nat)
  | 0 => L
  | k + 1 => fillL (crossL L k) (crossesL k)
def rowL (L : List (Nat × Nat)) : Nat → List (Nat × Nat)
  | 0 => L
  | k + 1 => fillL (rowL L k) (linesL k)
def roundsL (L : List (Nat × Nat)) : Nat → List (Nat × Nat)
  | 0 => L
  | n + 1 => rowL (crossL (roundsL L n) 4) 4
theorem crossS_L (l2 : List Int) (st : St) (k : Nat) : (crossS l2 st k).2 = crossL st.2 k := by
  induction k with
  | zero => rfl
  | succ k ih => simp [crossS, crossL, fillS, ih]
theorem rowS_L (l1 : List Int) (st : St) (k : Nat) : (rowS l1 st k).2 = rowL st.2 k := by
  induction k with
  | zero => rfl
  | succ k ih => simp [rowS, rowL, fillS, ih]
theorem roundsS_L (l1 l2 : List Int) (st : St) (k : Nat) : (roundsS l1 l2 st k).2 = roundsL st.2 k := by
  induction k with
  | zero => rfl
  | succ k ih => simp [roundsS, roundsL, roundS, rowS_L, crossS_L, ih]
theorem four_rounds (a b : Nat) (ha : a < 4) (hb : b < 4) (hab : a ≠ b) : roundsL (inL a b 4) 4 = [] := by
  have h : ∀ a, a < 4 → ∀ b, b < 4 → a ≠ b → roundsL (inL a b 4) 4 = [] := by decide +kernel
  exact h a ha b hb hab
theorem fillS_nil (gs : List Int) (l : List S62) (sum : Int) : fillS (gs, []) l sum = (gs, []) := by
  have h : hits [] l = [] := by simp [hits]
  simp [fillS, fillG, fillL, h]
theorem crossS_nil (l2 : List Int) (gs : List Int) (k : Nat) : crossS l2 (gs, []) k = (gs, []) := by
  induction k with
  | zero => rfl
  | succ k ih => simp [crossS, ih, fillS_nil]
theorem rowS_nil (l1 : List Int) (gs : List Int) (k : Nat) : rowS l1 (gs, []) k = (gs, []) := by
  induction k with
  | zero => rfl
  | succ k ih => simp [rowS, ih, fillS_nil]
theorem rounds_stay (l1 l2 : List Int) (st : St) (k n : Nat) (h : (roundsS l1 l2 st k).2 = []) : roundsS l1 l2 st (k + n) = roundsS l1 l2 st k := by
  induction n with
  | zero => rfl
  | succ n ih =>
    rw [← Nat.add_assoc]
    show roundS l1 l2 (roundsS l1 l2 st (k + n)) = _
    rw [ih]
    have e : roundsS l1 l2 st k = ((roundsS l1 l2 st k).1, []) := Prod.ext rfl h
    rw [e]; simp [roundS, crossS_nil, rowS_nil]

def outRow (gs : List Int) (i : Nat) : List Int := [gs.getD (i * 5) 0, gs.getD (i * 5 + 1) 0, gs.getD (i * 5 + 2) 0, gs.getD (i * 5 + 3) 0]
def outRows (gs : List Int) (k : Nat) : List (List Int) := (List.range k).map (outRow gs)
def endG (l0 : List (List Int)) (l1 l2 : List Int) (a b : Nat) : List Int := (roundsS l1 l2 (inG (laidK l0 4) l1 4, inL a b 4) 4).1
theorem C_mk {W : World} {kk : IntKind} {ad : Addr} {xs : List Int} (hm : xs.length ≤ 9223372036854775807) (h : ∀ j, j < xs.length → W.cell? (ad.add j) = some (.int kk (xs.getD j 0))) : Kd.C (Kd.int kk) W (some ad) xs.length xs := by
  refine ⟨rfl, hm, fun _ => ⟨ad, rfl, fun j p hj => ⟨[.int kk p], rfl, rfl, fun i u hu => ?_⟩⟩⟩
  have hjl := (List.getElem?_eq_some_iff.1 hj).1
  have := h j hjl
  rw [List.getD_eq_getElem?_getD, hj] at this
  cases i with
  | zero =>
    simp at hu
    subst hu
    simpa [Kd.int, Kd.scalar] using this
  | succ i => simp at hu

def RebPost (l0 : List (List Int)) (l1 l2 : List Int) (a b : Nat) (w : World) (e : Ending) (w' : World) : Prop :=
  ∃ v0_ : Value, e = .returned (.tuple #[v0_, .int .i64 0]) ∧ Kd.S (Kd.slice 5 (Kd.int .u8)) 23 w' w.heap.size (fun _ => True) v0_ (outRows (endG l0 l1 l2 a b) 4) ∧ Below w.heap.size w w'

set_option maxHeartbeats 16000000 in
theorem reb_ok (A0 : Option Addr) (c0 : Nat) (l0 : List (List Int)) (A1 : Option Addr) (c1 : Nat) (l1 : List Int) (A2 : Option Addr) (c2 : Nat) (l2 : List Int) (a b : Nat) (w : World)
    (hr0 : Kd.C (Kd.slice 5 (Kd.int .u8)) w A0 4 l0) (hg : isGrid l0 = true) (hr1 : Kd.C (Kd.int .u8) w A1 4 l1) (hr2 : Kd.C (Kd.int .u8) w A2 4 l2) (ha : a < 4) (hb : b < 4) (hab : a ≠ b) :
    Calls Try.prog 12 #[.slice A0 4 c0, .slice A1 4 c1, .slice A2 4 c2, .int .i64 a, .int .i64 b] w (RebPost l0 l1 l2 a b w) := by
  have HCK := Aside0.mk (cross_Check.same A0 c0 l0 0 w (by rw [(grid_all hg).1]; exact hr0) (by simp [cross_Check.f, hg]))
  rw [(grid_all hg).1] at HCK
  have HD1 := Aside0.mk (disk_calls a true (by simp; omega) w)
  have HD2 := Aside0.mk (disk_calls b true (by simp; omega) w)
  have HR := Aside0.mk hr0
  have HGR := Aside0.mk hg
  have HR1 := Aside0.mk hr1
  have HR2 := Aside0.mk hr2
  have HAB := Aside0.mk hab
  have hne : ((a : Int) == (b : Int)) = false := by rw [beq_eq_false_iff_ne]; omega
  have hmm := @run_makeMap Try.prog
  clear hr0 hr1 hr2 hg hab
  go_enter Try.func12, Try.ntmps12
  go_wp2_with (first | (go_at_call 16; refine HCK.out.mono ?_; rintro e w1 ⟨rfl, rfl⟩; clear HCK) | (go_at_call 30; refine HD1.out.mono ?_; rintro e w1 ⟨rfl, rfl⟩; clear HD1)  | (go_at_call 30; refine HD2.out.mono ?_; rintro e w1 ⟨rfl, rfl⟩; clear HD2) | (go_at_call 26; refine (gridOf_calls _ _ _ _ HR.out HGR.out).mono ?_; rintro e w1 ⟨rfl, hG, hB⟩))
  obtain ⟨ad1, e1, hc1⟩ := C_cells HR1.out (by omega)
  obtain ⟨ad2, e2, hc2⟩ := C_cells HR2.out (by omega)
  subst e1 e2
  have HP1 := Aside0.mk hc1
  have HP2 := Aside0.mk hc2
  have HL1 := Aside0.mk HR1.out.1
  have HL2 := Aside0.mk HR2.out.1
  have hm1 : w.heap.size < w1.heap.size := (Array.getElem?_eq_some_iff.1 hG).1
  have HB0 : Aside0 (Below w.heap.size w ((w1.alloc (.map #[] 0)).alloc (.cells #[.pointer (some ⟨w.heap.size, 0, none⟩), .map (some w1.heap.size)] 60))) := ⟨below_alloc (below_alloc hB _) _⟩
  have HS0 : Aside0 (SolverAt ((w1.alloc (.map #[] 0)).alloc (.cells #[.pointer (some ⟨w.heap.size, 0, none⟩), .map (some w1.heap.size)] 60)) (w1.heap.size + 1) w.heap.size w1.heap.size) := ⟨by have h := heap_alloc_new (w1.alloc (.map #[] 0)) (.cells #[.pointer (some ⟨w.heap.size, 0, none⟩), .map (some w1.heap.size)] 60); rw [World.size_alloc] at h; exact h⟩
  have HL0 : Aside0 (LostAt ((w1.alloc (.map #[] 0)).alloc (.cells #[.pointer (some ⟨w.heap.size, 0, none⟩), .map (some w1.heap.size)] 60)) w1.heap.size []) := ⟨lost_below (W := w1.alloc (.map #[] 0)) ⟨#[], 0, heap_alloc_new w1 _, List.Perm.refl _, List.nodup_nil, by simp, by simp⟩ (below_alloc (Below.refl _ _) _)⟩
  have HG0 : Aside0 (GridAt ((w1.alloc (.map #[] 0)).alloc (.cells #[.pointer (some ⟨w.heap.size, 0, none⟩), .map (some w1.heap.size)] 60)) w.heap.size (laidK l0 4)) := ⟨grid_below (grid_below hG (below_alloc (Below.refl _ _) _)) (below_alloc (Below.refl _ _) _)⟩
  clear hG hB hc1 hc2 HR1 HR2
  generalize (w1.alloc (.map #[] 0)).alloc (.cells #[.pointer (some ⟨w.heap.size, 0, none⟩), .map (some w1.heap.size)] 60) = W2 at HB0 HS0 HL0 HG0 ⊢
  generalize w1.heap.size = m at hm1 HS0 HL0 ⊢
  have HLN := Aside0.mk (laidK_len HGR.out 4 (by omega))
  go_loopg [53] 4 (fun gq i wr => ∃ k : Nat, k + gq = 4 ∧ i = .int .i64 k ∧ Aside0 (SolverAt wr (m + 1) w.heap.size m) ∧ Aside0 (GridAt wr w.heap.size (inG (laidK l0 4) l1 k)) ∧ Aside0 (LostAt wr m (inL a b k)) ∧ Aside0 (Below w.heap.size w wr))
  case atStart => exact ⟨0, by omega, rfl, HS0, HG0, HL0, HB0⟩
  case round =>
    clear HB0 HS0 HL0 HG0
    obtain ⟨k, hk, rfl, HS, HG, HL, HB⟩ := hrel
    by_cases hlt : k < 4
    · have hcr : wr.cell? (ad1.add k) = some (.int .u8 (l1.getD k 0)) := by
        have h1 := HP1.out k (.int .u8 (l1.getD k 0)) (by rw [List.getElem?_map, List.getElem?_eq_getElem (by rw [HL1.out]; exact hlt), List.getD_eq_getElem?_getD, List.getElem?_eq_getElem (by rw [HL1.out]; exact hlt)]; rfl)
        exact (HB.out.cell (World.block_lt_of_cell? w _ h1)).trans h1
      have HIL : Aside0 ((inG (laidK l0 4) l1 k).length = 20) := ⟨by rw [inG_len]; exact HLN.out⟩
      have hinG : inG (laidK l0 4) l1 (k + 1) = (inG (laidK l0 4) l1 k).set (k * 5 + 4) (l1.getD k 0) := rfl
      have HIG := Aside0.mk hinG
      clear hinG
      generalize l1.getD k 0 = r at hcr HIG
      have hs0 : wr.cell? ⟨m + 1, 0, none⟩ = some (.pointer (some ⟨w.heap.size, 0, none⟩)) := (blk_cell HS.out 0).trans rfl
      have hcg := grid_cell HG.out (k * 5 + 4) (by rw [HIL.out]; omega)
      have hfg := grid_free HG.out (k * 5 + 4)
      go_wp2
      have hSb : m + 1 ≠ w.heap.size := by omega
      have hmb : m ≠ w.heap.size := by omega
      have HS3 : Aside0 (SolverAt (wr.setCell ⟨w.heap.size, k * 5 + 4, none⟩ (.int .u8 r)) (m + 1) w.heap.size m) := ⟨blk_far HS.out (p := ⟨w.heap.size, k * 5 + 4, none⟩) hSb _⟩
      have HG3 : Aside0 (GridAt (wr.setCell ⟨w.heap.size, k * 5 + 4, none⟩ (.int .u8 r)) w.heap.size (inG (laidK l0 4) l1 (k + 1))) := ⟨by rw [HIG.out]; exact grid_set HG.out _ _⟩
      have HL3 : Aside0 (LostAt (wr.setCell ⟨w.heap.size, k * 5 + 4, none⟩ (.int .u8 r)) m (inL a b k)) := ⟨lost_move HL.out (Below.heap_setCell wr ⟨w.heap.size, k * 5 + 4, none⟩ _ m hmb)⟩
      have HB3 : Aside0 (Below w.heap.size w (wr.setCell ⟨w.heap.size, k * 5 + 4, none⟩ (.int .u8 r))) := ⟨HB.out.setCell (p := ⟨w.heap.size, k * 5 + 4, none⟩) (Nat.le_refl _) _⟩
      clear HS HG HL HB hcr hs0 hcg hfg HIG
      generalize wr.setCell ⟨w.heap.size, k * 5 + 4, none⟩ (.int .u8 r) = W3 at HS3 HG3 HL3 HB3 ⊢
      have hn1 : (k, a) ∉ inL a b k := fun h => by have := inL_lt a b k _ h; simp at this
      have hn2 : (k, b) ∉ (k, a) :: inL a b k := by
        intro h
        rcases List.mem_cons.1 h with h | h
        · injection h with _ h; exact HAB.out h.symm
        · have := inL_lt a b k _ h; simp at this
      have hne1 : m + 1 ≠ m := by omega
      obtain ⟨es1, k1, s1, hr1, hl1, hb1, _⟩ := lost_entry (W := W3.drew) HL3.out (k, a) ⟨by omega, by omega⟩ hn1
      obtain ⟨es2, k2, hr2, hl2, _⟩ := lost_store hl1 s1 hb1 (.int .i64 k)
      obtain ⟨es3, k3, s3, hr3, hl3, hb3, _⟩ := lost_entry hl2 (k, b) ⟨by omega, by omega⟩ hn2
      obtain ⟨es4, k4, hr4, hl4, _⟩ := lost_store hl3 s3 hb3 (.int .i64 k)
      have hS4 : SolverAt (setBlock W3.drew m (.map es1 k1)) (m + 1) w.heap.size m := solver_set (W := W3.drew) HS3.out hne1 _
      have hS5 := solver_set hS4 hne1 (.map es2 k2)
      have hS6 := solver_set hS5 hne1 (.map es3 k3)
      have hS7 := solver_set hS6 hne1 (.map es4 k4)
      have hB4 := setBlock_below (below_drew1 HB3.out) (Nat.le_of_lt hm1) (.map es1 k1)
      have hB5 := setBlock_below hB4 (Nat.le_of_lt hm1) (.map es2 k2)
      have hB6 := setBlock_below hB5 (Nat.le_of_lt hm1) (.map es3 k3)
      have hB7 := setBlock_below hB6 (Nat.le_of_lt hm1) (.map es4 k4)
      have hG4 : GridAt (setBlock W3.drew m (.map es1 k1)) w.heap.size (inG (laidK l0 4) l1 (k + 1)) := (setBlock_ne W3.drew _ (Ne.symm hmb)).trans HG3.out
      have hG5 : GridAt (setBlock (setBlock W3.drew m (.map es1 k1)) m (.map es2 k2)) w.heap.size (inG (laidK l0 4) l1 (k + 1)) := (setBlock_ne _ _ (Ne.symm hmb)).trans hG4
      have hG6 : GridAt (setBlock (setBlock (setBlock W3.drew m (.map es1 k1)) m (.map es2 k2)) m (.map es3 k3)) w.heap.size (inG (laidK l0 4) l1 (k + 1)) := (setBlock_ne _ _ (Ne.symm hmb)).trans hG5
      have hG7 : GridAt (setBlock (setBlock (setBlock (setBlock W3.drew m (.map es1 k1)) m (.map es2 k2)) m (.map es3 k3)) m (.map es4 k4)) w.heap.size (inG (laidK l0 4) l1 (k + 1)) := (setBlock_ne _ _ (Ne.symm hmb)).trans hG6
      have HS7 := Aside0.mk hS7
      have HB7 := Aside0.mk hB7
      have HG7 := Aside0.mk hG7
      have HL7 := Aside0.mk hl4
      generalize setBlock (setBlock (setBlock (setBlock W3.drew m (.map es1 k1)) m (.map es2 k2)) m (.map es3 k3)) m (.map es4 k4) = W7 at HS7 HB7 HG7 HL7 hr4
      clear hS7 hB7 hG7 hl4 hl3 hb3 hl2 hl1 hb1 hB4 hB5 hB6 hG4 hG5 hG6
      generalize setBlock (setBlock (setBlock W3.drew m (.map es1 k1)) m (.map es2 k2)) m (.map es3 k3) = W6 at hS6 hr3 hr4
      generalize setBlock (setBlock W3.drew m (.map es1 k1)) m (.map es2 k2) = W5 at hS5 hr2 hr3
      generalize setBlock W3.drew m (.map es1 k1) = W4 at hS4 hr1 hr2
      have c3 : W3.cell? ⟨m + 1, 1, none⟩ = some (.map (some m)) := (blk_cell HS3.out 1).trans rfl
      have c4 : W4.cell? ⟨m + 1, 1, none⟩ = some (.map (some m)) := (blk_cell hS4 1).trans rfl
      have c5 : W5.cell? ⟨m + 1, 1, none⟩ = some (.map (some m)) := (blk_cell hS5 1).trans rfl
      have c6 : W6.cell? ⟨m + 1, 1, none⟩ = some (.map (some m)) := (blk_cell hS6 1).trans rfl
      have c7 : W7.cell? ⟨m + 1, 1, none⟩ = some (.map (some m)) := (blk_cell HS7.out 1).trans rfl
      unfold kv at hr1 hr3
      clear hS4 hS5 hS6 hn1 hn2
      go_region_held3 (fun w' => w'.cell? ⟨m + 1, 1, none⟩ = some (.map (some m))) (first | exact c3 | exact c4 | exact c5 | exact c6 | exact c7) (fail)
      clear hr1 hr2 hr3 hr4 c3 c4 c5 c6 c7 HS3 HG3 HL3 HB3
      go_wp2
      go_roundg (gk - 1)
      case measure => omega
      case rel => exact ⟨k + 1, by omega, by go_num, HS7, HG7, HL7, HB7⟩
    · obtain rfl : k = 4 := by omega
      have HIL : Aside0 ((inG (laidK l0 4) l1 4).length = 20) := ⟨by rw [inG_len]; exact HLN.out⟩
      have h4r := four_rounds a b ha hb HAB.out
      obtain ⟨st0, hst0⟩ : ∃ st0 : St, st0 = (inG (laidK l0 4) l1 4, inL a b 4) := ⟨_, rfl⟩
      have HST := Aside0.mk hst0
      have HG0 : Aside0 (GridAt wr w.heap.size st0.1) := ⟨by rw [hst0]; exact HG.out⟩
      have HL0 : Aside0 (LostAt wr m st0.2) := ⟨by rw [hst0]; exact HL.out⟩
      have HLEN : Aside0 (st0.1.length = 20) := ⟨by rw [hst0]; exact HIL.out⟩
      have HEND : Aside0 ((roundsS l1 l2 st0 4).2 = []) := ⟨by rw [roundsS_L, hst0]; exact h4r⟩
      clear hst0 HG HL HIL h4r
      go_wp2
      go_loopg [16] 4 (fun gq v wr => ∃ k : Nat, k + gq = 4 ∧ Aside0 (SolverAt wr (m + 1) w.heap.size m) ∧ Aside0 (GridAt wr w.heap.size (roundsS l1 l2 st0 k).1) ∧ Aside0 (LostAt wr m (roundsS l1 l2 st0 k).2) ∧ Aside0 (Below w.heap.size w wr))
      case atStart => exact ⟨0, by omega, HS, HG0, HL0, HB⟩
      case round =>
        clear HS HG0 HL0 HB
        obtain ⟨k, hk, HS, HG, HL, HB⟩ := hrel
        have hs1 : wr.cell? ⟨m + 1, 1, none⟩ = some (.map (some m)) := (blk_cell HS.out 1).trans rfl
        have hlen := fun ty => lost_len HL.out ty
        by_cases hnil : (roundsS l1 l2 st0 k).2 = []
        · have hend : roundsS l1 l2 st0 4 = roundsS l1 l2 st0 k := by
            have := rounds_stay l1 l2 st0 k (4 - k) hnil
            rwa [show k + (4 - k) = 4 from by omega] at this
          have HGF : Aside0 (GridAt wr w.heap.size (endG l0 l1 l2 a b)) := ⟨by
            have := HG.out
            rw [← hend] at this
            unfold endG
            rw [← HST.out]
            exact this⟩
          have HFL : Aside0 ((endG l0 l1 l2 a b).length = 20) := ⟨by unfold endG; rw [roundsS_len, ← HST.out]; exact HLEN.out⟩
          rw [hnil] at hlen
          clear hend hnil HG HL HST HEND HLEN
          generalize hgf : endG l0 l1 l2 a b = gF at HGF HFL
          have HGE := Aside0.mk hgf
          clear hgf
          have hs0 : wr.cell? ⟨m + 1, 0, none⟩ = some (.pointer (some ⟨w.heap.size, 0, none⟩)) := (blk_cell HS.out 0).trans rfl
          go_wp2
          clear hs0 hs1 hlen HS
          go_loopg [20, 125] 4 (fun gq v i wr => ∃ k : Nat, k + gq = 4 ∧ i = .int .i64 k ∧ Aside0 (Kd.S (Kd.slice 5 (Kd.int .u8)) 23 wr w.heap.size (fun _ => True) v (outRows gF k)) ∧ Aside0 (GridAt wr w.heap.size gF) ∧ Aside0 (Below w.heap.size w wr))
          case atStart => exact ⟨0, by omega, rfl, ⟨Kd.S_nil _ _ _ _ _⟩, HGF, HB⟩
          case round =>
            clear HGF HB
            obtain ⟨j, hj, rfl, HV, HG, HB⟩ := hrel
            by_cases hjt : j < 4
            · have g0 := grid_cell HG.out (j * 5) (by rw [HFL.out]; omega)
              have g1 := grid_cell HG.out (j * 5 + 1) (by rw [HFL.out]; omega)
              have g2 := grid_cell HG.out (j * 5 + 2) (by rw [HFL.out]; omega)
              have g3 := grid_cell HG.out (j * 5 + 3) (by rw [HFL.out]; omega)
              have g4 := grid_cell HG.out (j * 5 + 4) (by rw [HFL.out]; omega)
              have HOR : Aside0 (outRows gF (j + 1) = outRows gF j ++ [[gF.getD (j * 5) 0, gF.getD (j * 5 + 1) 0, gF.getD (j * 5 + 2) 0, gF.getD (j * 5 + 3) 0]]) := ⟨by simp [outRows, outRow, List.range_succ]⟩
              have HLO : Aside0 ((outRows gF j).length = j) := ⟨by simp [outRows]⟩
              generalize gF.getD (j * 5) 0 = x0 at g0 HOR
              generalize gF.getD (j * 5 + 1) 0 = x1 at g1 HOR
              generalize gF.getD (j * 5 + 2) 0 = x2 at g2 HOR
              generalize gF.getD (j * 5 + 3) 0 = x3 at g3 HOR
              generalize gF.getD (j * 5 + 4) 0 = x4 at g4
              have HW1 : Aside0 (Below w.heap.size w (wr.alloc (.cells #[.int .u8 x0, .int .u8 x1, .int .u8 x2, .int .u8 x3, .int .u8 x4] 50))) := ⟨below_alloc HB.out _⟩
              have HC1 : Aside0 (Kd.C (Kd.int .u8) (wr.alloc (.cells #[.int .u8 x0, .int .u8 x1, .int .u8 x2, .int .u8 x3, .int .u8 x4] 50)) (some ⟨wr.heap.size, 0, none⟩) 4 [x0, x1, x2, x3]) := ⟨C_mk (xs := [x0, x1, x2, x3]) (by simp) (fun i hi => by
                have hb := heap_alloc_new wr (.cells #[.int .u8 x0, .int .u8 x1, .int .u8 x2, .int .u8 x3, .int .u8 x4] 50)
                rw [add_plain, blk_cell hb]
                match i, hi with
                | 0, _ => rfl
                | 1, _ => rfl
                | 2, _ => rfl
                | 3, _ => rfl)⟩
              have HV1 : Aside0 (Kd.S (Kd.slice 5 (Kd.int .u8)) 23 (wr.alloc (.cells #[.int .u8 x0, .int .u8 x1, .int .u8 x2, .int .u8 x3, .int .u8 x4] 50)) w.heap.size (fun _ => True) u20 (outRows gF j)) := ⟨Kd.S_below HV.out (below_alloc (Below.refl _ _) _)⟩
              have HG1 : Aside0 (GridAt (wr.alloc (.cells #[.int .u8 x0, .int .u8 x1, .int .u8 x2, .int .u8 x3, .int .u8 x4] 50)) w.heap.size gF) := ⟨grid_below HG.out (below_alloc (Below.refl _ _) _)⟩
              go_wp2_with (first | (go_at_call 32; refine (clone_calls _ _ _ _ _ HC1.out (by omega)).mono ?_; rintro e w7 ⟨v7, rfl, hR7, hb7⟩; obtain ⟨A7, k7, rfl⟩ := Kd.R_slice hR7; have HV7 := Aside0.mk (Kd.S_elder' HV1.out (Kd.R_base hR7) hb7); have HB7 := Aside0.mk (below_then HW1.out HW1.out.size hb7); have HR7 := Aside0.mk (Kd.R_lower hR7 HW1.out.size); have HG7 := Aside0.mk (grid_below HG1.out hb7); clear hR7 hb7) | ((with_reducible refine gate_builtin (b := .append) (xs := #[.tmp 130, .tmp 133]) rfl ?_); at_builtin; refine Kd.S_append (Kd.slice 5 (Kd.int .u8)) (w0 := w) w.heap.size rfl (.tmp 130) (.tmp 133) 22 23 (.slice none 0 0) 24 rfl Try.underlying22 info23 rfl (by decide) (by omega) u20 (outRows gF j) [x0, x1, x2, x3] [.slice A7 4 k7] (fun _ => True) (fun k_ => some k_ = (Value.slice A7 4 k7).ownBlock) rfl rfl ?aP (fun k_ hk_ => (Kd.R_apart' HR7.out (Kd.S_typed HV7.out) (by decide)).1 k_ hk_.symm) (fun _ _ => trivial) HV7.out HB7.out HB7.out.size ?aL ?_; (case aP => exact Kd.M_row (Kd.R_tight rfl HR7.out)); (case aL => rw [HLO.out]; omega); intro v8 w8 ho hb hg hat; have HV8 := Aside0.mk ho; have HB8 := Aside0.mk hb; have HG8 := Aside0.mk (blk_grown HG7.out hg (fun e => Kd.S_ne HV7.out HG7.out (by decide) e)); clear ho hb hg hat))
              go_roundg (gk - 1)
              case measure => omega
              case rel => exact ⟨j + 1, by omega, by go_num, ⟨by rw [HOR.out]; exact HV8.out⟩, ⟨HG8.out⟩, HB8⟩
            · obtain rfl : j = 4 := by omega
              go_wp2
              go_ret2
              exact ⟨_, rfl, by rw [HGE.out]; exact HV.out, HB.out⟩
        · have hk4 : k < 4 := by
            rcases Nat.lt_or_ge k 4 with h | h
            · exact h
            · obtain rfl : k = 4 := by omega
              exact absurd HEND.out hnil
          have hpos : 0 < (roundsS l1 l2 st0 k).2.length := List.length_pos_iff.2 hnil
          have HNL : Aside0 ((roundsS l1 l2 st0 k).1.length = 20) := ⟨by rw [roundsS_len]; exact HLEN.out⟩
          have hsucc : roundsS l1 l2 st0 (k + 1) = roundS l1 l2 (roundsS l1 l2 st0 k) := rfl
          have HSC := Aside0.mk hsucc
          clear hnil hsucc
          generalize roundsS l1 l2 st0 k = st at HG HL hlen hpos HSC HNL
          generalize st.2.length = n at hlen hpos
          go_wp2
          clear hs1 hlen hpos
          go_loopg [96] 4 (fun gq i wr => ∃ j : Nat, j + gq = 4 ∧ i = .int .i64 j ∧ Aside0 (SolverAt wr (m + 1) w.heap.size m) ∧ Aside0 (GridAt wr w.heap.size (crossS l2 st j).1) ∧ Aside0 (LostAt wr m (crossS l2 st j).2) ∧ Aside0 (Below w.heap.size w wr))
          case atStart => exact ⟨0, by omega, rfl, HS, HG, HL, HB⟩
          case round =>
            clear HS HG HL HB
            obtain ⟨j, hj, rfl, HS, HG, HL, HB⟩ := hrel
            by_cases hjt : j < 4
            · have hcr : wr.cell? (ad2.add j) = some (.int .u8 (l2.getD j 0)) := by
                have h1 := HP2.out j (.int .u8 (l2.getD j 0)) (by rw [List.getElem?_map, List.getElem?_eq_getElem (by rw [HL2.out]; exact hjt), List.getD_eq_getElem?_getD, List.getElem?_eq_getElem (by rw [HL2.out]; exact hjt)]; rfl)
                exact (HB.out.cell (World.block_lt_of_cell? w _ h1)).trans h1
              have HN3 : Aside0 ((crossS l2 st j).1.length = 20) := ⟨by rw [crossS_len]; exact HNL.out⟩
              have HSJ : Aside0 (crossS l2 st (j + 1) = fillS (crossS l2 st j) (crossesL j) (l2.getD j 0)) := ⟨rfl⟩
              have hbw : w.heap.size < wr.heap.size := (Array.getElem?_eq_some_iff.1 HG.out).1
              generalize l2.getD j 0 = y at hcr HSJ
              generalize crossS l2 st j = sj at HG HL HN3 HSJ
              go_wp2_with (first | (go_at_call 29; refine (crosses_calls j hjt _).mono ?_; rintro e w3 ⟨A, c, rfl, hC, hb⟩; have HC3 := Aside0.mk hC; have HS3 := Aside0.mk (solver_below HS.out hb); have HG3 := Aside0.mk (grid_below HG.out hb); have HL3 := Aside0.mk (lost_below HL.out hb); have HB3 := Aside0.mk (below_then HB.out (Nat.le_of_lt hbw) hb); clear hC hb) | (go_at_call 31; refine (fill_calls w.heap.size (m + 1) w.heap.size m sj.1 sj.2 A c (crossesL j) y w w3 HB3.out (Nat.le_refl _) (Nat.le_of_lt hm1) HS3.out HG3.out HN3.out HL3.out HC3.out (crossesL_in j hjt)).mono ?_; rintro e w4 ⟨rfl, hb4, hs4, hg4, hl4⟩; have HB4 := Aside0.mk hb4; have HS4 := Aside0.mk hs4; have HG4 := Aside0.mk hg4; have HL4 := Aside0.mk hl4; clear hb4 hs4 hg4 hl4))
              go_roundg (gk - 1)
              case measure => omega
              case rel => exact ⟨j + 1, by omega, by go_num, HS4, ⟨by rw [HSJ.out]; exact HG4.out⟩, ⟨by rw [HSJ.out]; exact HL4.out⟩, HB4⟩
            · obtain rfl : j = 4 := by omega
              have HNL2 : Aside0 ((crossS l2 st 4).1.length = 20) := ⟨by rw [crossS_len]; exact HNL.out⟩
              have HS2E : Aside0 (roundsS l1 l2 st0 (k + 1) = rowS l1 (crossS l2 st 4) 4) := ⟨HSC.out⟩
              generalize crossS l2 st 4 = s2 at HG HL HNL2 HS2E
              clear HNL HSC
              have HNL := HNL2
              clear HNL2
              go_wp2
              go_loopg [109] 4 (fun gq i wr => ∃ j : Nat, j + gq = 4 ∧ i = .int .i64 j ∧ Aside0 (SolverAt wr (m + 1) w.heap.size m) ∧ Aside0 (GridAt wr w.heap.size (rowS l1 s2 j).1) ∧ Aside0 (LostAt wr m (rowS l1 s2 j).2) ∧ Aside0 (Below w.heap.size w wr))
              case atStart => exact ⟨0, by omega, rfl, HS, HG, HL, HB⟩
              case round =>
                clear HS HG HL HB
                obtain ⟨j, hj, rfl, HS, HG, HL, HB⟩ := hrel
                by_cases hjt : j < 4
                · have hcr : wr.cell? (ad1.add j) = some (.int .u8 (l1.getD j 0)) := by
                    have h1 := HP1.out j (.int .u8 (l1.getD j 0)) (by rw [List.getElem?_map, List.getElem?_eq_getElem (by rw [HL1.out]; exact hjt), List.getD_eq_getElem?_getD, List.getElem?_eq_getElem (by rw [HL1.out]; exact hjt)]; rfl)
                    exact (HB.out.cell (World.block_lt_of_cell? w _ h1)).trans h1
                  have HN3 : Aside0 ((rowS l1 s2 j).1.length = 20) := ⟨by rw [rowS_len]; exact HNL.out⟩
                  have HSJ : Aside0 (rowS l1 s2 (j + 1) = fillS (rowS l1 s2 j) (linesL j) (l1.getD j 0)) := ⟨rfl⟩
                  have hbw : w.heap.size < wr.heap.size := (Array.getElem?_eq_some_iff.1 HG.out).1
                  generalize l1.getD j 0 = y at hcr HSJ
                  generalize rowS l1 s2 j = sj at HG HL HN3 HSJ
                  go_wp2_with (first | (go_at_call 28; refine (lines_calls j hjt _).mono ?_; rintro e w3 ⟨A, c, rfl, hC, hb⟩; have HC3 := Aside0.mk hC; have HS3 := Aside0.mk (solver_below HS.out hb); have HG3 := Aside0.mk (grid_below HG.out hb); have HL3 := Aside0.mk (lost_below HL.out hb); have HB3 := Aside0.mk (below_then HB.out (Nat.le_of_lt hbw) hb); clear hC hb) | (go_at_call 31; refine (fill_calls w.heap.size (m + 1) w.heap.size m sj.1 sj.2 A c (linesL j) y w w3 HB3.out (Nat.le_refl _) (Nat.le_of_lt hm1) HS3.out HG3.out HN3.out HL3.out HC3.out (linesL_in j hjt)).mono ?_; rintro e w4 ⟨rfl, hb4, hs4, hg4, hl4⟩; have HB4 := Aside0.mk hb4; have HS4 := Aside0.mk hs4; have HG4 := Aside0.mk hg4; have HL4 := Aside0.mk hl4; clear hb4 hs4 hg4 hl4))
                  go_roundg (gk - 1)
                  case measure => omega
                  case rel => exact ⟨j + 1, by omega, by go_num, HS4, ⟨by rw [HSJ.out]; exact HG4.out⟩, ⟨by rw [HSJ.out]; exact HL4.out⟩, HB4⟩
                · obtain rfl : j = 4 := by omega
                  have HFIN : Aside0 (roundsS l1 l2 st0 (k + 1) = rowS l1 s2 4) := HS2E
                  go_wp2
                  go_roundg (4 - (k + 1))
                  case measure => omega
                  case rel => exact ⟨k + 1, by omega, HS, ⟨by rw [HFIN.out]; exact HG.out⟩, ⟨by rw [HFIN.out]; exact HL.out⟩, HB⟩
end Go.Proofs.Ytpgakpeodddnkaa.C
