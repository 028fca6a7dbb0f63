import Derived.Test.YtpgakpeodddnkaaCx0
import Derived.Deep.Matrix
import Derived.ChangeSlices
namespace Go.Proofs.Ytpgakpeodddnkaa.C
open Go.ChangeShapes Go.WideShapes Go.Deep
open Go.RowKit Go.Proofs.YtpgakpeodddnkaaW.PrintWords Go.Proofs.YtpgakpeodddnkaaW.PrintLast Go.Proofs.YtpgakpeodddnkaaW.PrintMore

def Wf (k : IntKind) (l : List Int) : Prop := ∀ x ∈ l, (Lit.int k x).wf = true
section
variable {H : Type} {enc : TypeId × Value → H} {P : Program} {W : World} {base : Nat} {held : Bool}
theorem ints_C {k : IntKind} {a : Addr} {len : Nat} {zs : List Int} (hl : len ≤ zs.length) (hm : len ≤ 9223372036854775807) (hc : ∀ i, i < zs.length → W.cell? (a.add i) = some (.int k (zs.getD i 0))) : Kd.C (Kd.int k) W (some a) len (zs.take len) := by
  refine ⟨by rw [List.length_take]; omega, hm, fun _ => ⟨a, rfl, fun j p hp => ?_⟩⟩
  have hj : j < len := by
    have := (List.getElem?_eq_some_iff.1 hp).1
    rw [List.length_take] at this
    omega
  refine ⟨[.int k p], rfl, rfl, fun i u hu => ?_⟩
  have hi : i = 0 := by
    have := (List.getElem?_eq_some_iff.1 hu).1
    simp at this
    omega
  subst hi
  simp at hu
  subst hu
  rw [List.getElem?_take_of_lt hj] at hp
  obtain ⟨h1, h2⟩ := List.getElem?_eq_some_iff.1 hp
  have h := hc j h1
  rw [List.getD_eq_getElem?_getD, List.getElem?_eq_getElem h1, Option.getD_some, h2] at h
  simpa [Kd.int, Kd.scalar] using h
theorem nil_C {α : Type} (d : Kd α) : Kd.C d W none 0 [] := ⟨rfl, by omega, fun h => absurd h (by omega)⟩
theorem open_C_ints {t e : TypeId} {k : IntKind} {a : Option Addr} {n c : Nat} {d : DataW H} {ps : List MemPlace} (ht : P.underlying t = some (.slice e)) (he : P.underlying e = some (.int k)) (ce : P.cellsOf e = 1)
    (h : DataW.Trod enc P W base (fun _ => true) held t (.slice a n c) d ps) : ∃ l : List Int, n = l.length ∧ l.length ≤ c ∧ Kd.C (Kd.int k) W a l.length l ∧ Wf k l := by
  obtain ⟨fuel, hf⟩ := h
  rcases open_ints ht he ce hf with ⟨hcs, _⟩ | ⟨x, l, c', zs, hcs, _, hl, hm, hz, _, hcell, hwz⟩
  · simp [Value.cells] at hcs
    obtain ⟨rfl, rfl, rfl⟩ := hcs
    exact ⟨[], rfl, Nat.le_refl _, nil_C _, by simp [Wf]⟩
  · simp [Value.cells] at hcs
    obtain ⟨rfl, rfl, rfl⟩ := hcs
    simp at hz
    have hlen : (zs.take n).length = n := by rw [List.length_take]; omega
    refine ⟨zs.take n, hlen.symm, by omega, ?_, fun y hy => hwz y (List.mem_of_mem_take hy)⟩
    rw [hlen]
    exact ints_C (by omega) (by have : maxLen = 9223372036854775807 := rfl; omega) hcell
theorem open_C_rows {t e q : TypeId} {k : IntKind} {E : Nat} {a : Option Addr} {n c : Nat} {d : DataW H} {ps : List MemPlace} (ht : P.underlying t = some (.slice e)) (he : P.underlying e = some (.slice q)) (hq : P.underlying q = some (.int k)) (ce : P.cellsOf e = 1) (cq : P.cellsOf q = 1)
    (h : DataW.Trod enc P W base (fun _ => true) held t (.slice a n c) d ps) : ∃ l : List (List Int), n = l.length ∧ l.length ≤ c ∧ Kd.C (Kd.slice E (Kd.int k)) W a l.length l ∧ ∀ r ∈ l, Wf k r := by
  obtain ⟨fuel, hf⟩ := h
  rcases open_int_rows ht he hq ce cq hf with ⟨hcs, _⟩ | ⟨x, len, cap, A, L, C, Z, hcs, _, hl, hm, _, hr⟩
  · simp [Value.cells] at hcs
    obtain ⟨rfl, rfl, rfl⟩ := hcs
    exact ⟨[], rfl, Nat.le_refl _, nil_C _, by simp⟩
  · simp [Value.cells] at hcs
    obtain ⟨rfl, rfl, rfl⟩ := hcs
    have hmax : maxLen = 9223372036854775807 := rfl
    have hlen : ((List.range n).map fun r => (Z r).take (L r)).length = n := by simp
    refine ⟨(List.range n).map fun r => (Z r).take (L r), hlen.symm, by omega, ?_, ?_⟩
    · rw [hlen]
      refine ⟨hlen, by omega, fun _ => ⟨x, rfl, fun j p hp => ?_⟩⟩
      rw [List.getElem?_map] at hp
      obtain ⟨j', hj', rfl⟩ := Option.map_eq_some_iff.1 hp
      obtain ⟨hj, hjj⟩ := List.getElem?_eq_some_iff.1 hj'
      rw [List.getElem_range] at hjj
      subst hjj
      rw [List.length_range] at hj
      obtain ⟨h1, h2, h3, h4, _, h6, h7⟩ := hr j (by omega)
      have hL : ((Z j).take (L j)).length = L j := by rw [List.length_take]; omega
      refine ⟨[.slice (A j) (L j) (C j)], rfl, ⟨A j, C j, by rw [hL], by omega, ?_⟩, fun i u hu => ?_⟩
      · rw [hL]
        rcases hA : A j with _ | a'
        · have hC0 := h6 hA
          have hL0 : L j = 0 := by omega
          rw [hL0]
          exact nil_C _
        · exact ints_C (by omega) (by omega) (fun i hi => (h7 a' hA).2 i (by omega))
      · have hi : i = 0 := by
          have := (List.getElem?_eq_some_iff.1 hu).1
          simp at this
          omega
        subst hi
        simp at hu
        subst hu
        simpa [Kd.slice] using h1
    · intro r hr'
      obtain ⟨j, hj, rfl⟩ := List.mem_map.1 hr'
      have hj := List.mem_range.1 hj
      exact fun y hy => (hr j (by omega)).2.2.2.2.1 y (List.mem_of_mem_take hy)
end
end Go.Proofs.Ytpgakpeodddnkaa.C
