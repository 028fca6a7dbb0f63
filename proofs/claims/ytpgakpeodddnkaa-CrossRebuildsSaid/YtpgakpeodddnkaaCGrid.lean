import Derived.Test.YtpgakpeodddnkaaCCheck
import Derived.Test.YtpgakpeodddnkaaCx1
import Derived.Laws.CopyOwn
import Derived.Outline
namespace Go.Proofs.Ytpgakpeodddnkaa.C
open Go.RowKit Go.Proofs.YtpgakpeodddnkaaW.PrintWords Go.Proofs.YtpgakpeodddnkaaW.PrintLast Go.Proofs.YtpgakpeodddnkaaW.PrintMore

/-- a grid's first k lines as they lie: five cells a line -/
def laidK (l0 : List (List Int)) (k : Nat) : List Int := (l0.take k).flatMap (· ++ [0]) ++ List.replicate (20 - 5 * k) 0
theorem zeros20 : (List.replicate 20 (0 : Int)).map (Value.int .u8) = [Value.int IntKind.u8 0, Value.int IntKind.u8 0, Value.int IntKind.u8 0, Value.int IntKind.u8 0,
      Value.int IntKind.u8 0, Value.int IntKind.u8 0, Value.int IntKind.u8 0, Value.int IntKind.u8 0,
      Value.int IntKind.u8 0, Value.int IntKind.u8 0, Value.int IntKind.u8 0, Value.int IntKind.u8 0,
      Value.int IntKind.u8 0, Value.int IntKind.u8 0, Value.int IntKind.u8 0, Value.int IntKind.u8 0,
      Value.int IntKind.u8 0, Value.int IntKind.u8 0, Value.int IntKind.u8 0, Value.int IntKind.u8 0] := rfl
abbrev GridAt (W : World) (b : Nat) (gs : List Int) : Prop := W.heap[b]? = some (.cells (gs.map (Value.int .u8)).toArray 52 (0, 0))

theorem grid_row {l0 : List (List Int)} (hg : isGrid l0 = true) (k : Nat) (hk : k < 4) : (l0.getD k []).length = 4 := by
  have h := (isGrid_iff l0).1 hg
  exact firstBad_good l0 k (by omega)
theorem flat_len (l : List (List Int)) (h : ∀ r ∈ l, r.length = 4) : (l.flatMap (· ++ [0])).length = 5 * l.length := by
  induction l with
  | nil => rfl
  | cons r rs ih =>
    simp only [List.flatMap_cons, List.length_append, List.length_cons]
    rw [ih (fun x hx => h x (by simp [hx])), h r (by simp)]; simp; omega
theorem grid_all {l0 : List (List Int)} (hg : isGrid l0 = true) : l0.length = 4 ∧ ∀ r ∈ l0, r.length = 4 := by
  have h := (isGrid_iff l0).1 hg
  exact ⟨h.1, (firstBad_all l0).1 h.2⟩
theorem laidK_len {l0 : List (List Int)} (hg : isGrid l0 = true) (k : Nat) (hk : k ≤ 4) : (laidK l0 k).length = 20 := by
  obtain ⟨h4, hr⟩ := grid_all hg
  unfold laidK
  rw [List.length_append, flat_len _ (fun r h => hr r (List.mem_of_mem_take h)), List.length_take, List.length_replicate]
  omega
theorem laidK_next {l0 : List (List Int)} (hg : isGrid l0 = true) (k : Nat) (hk : k < 4) :
    splice (laidK l0 k) (k * 5) (l0.getD k []) = laidK l0 (k + 1) := by
  obtain ⟨h4, hr⟩ := grid_all hg
  have hl := flat_len (l0.take k) (fun r h => hr r (List.mem_of_mem_take h))
  rw [List.length_take] at hl
  have hx : ((l0.take k).flatMap (· ++ [0])).length = k * 5 := by omega
  have hrow := grid_row hg k hk
  unfold splice laidK
  rw [List.take_append_of_le_length (by omega), List.take_of_length_le (by omega), List.drop_append, hx, List.drop_of_length_le (by omega), hrow]
  rw [List.take_succ_eq_append_getElem (by omega), List.flatMap_append]
  simp only [List.nil_append, List.flatMap_cons, List.flatMap_nil, List.append_nil, List.append_assoc, List.drop_replicate]
  rw [List.getD_eq_getElem?_getD, List.getElem?_eq_getElem (by omega)]
  simp only [Option.getD_some]
  congr 2
  rw [show 20 - 5 * k - (k * 5 + 4 - k * 5) = (20 - 5 * (k + 1)) + 1 from by omega, List.replicate_succ]
  rfl
theorem splice_map {α β : Type} (f : α → β) (L : List α) (off : Nat) (cs : List α) : splice (L.map f) off (cs.map f) = (splice L off cs).map f := by
  simp [splice]

theorem C_cells {W : World} {kk : IntKind} {A : Option Addr} {n : Nat} {row : List Int} (h : (Kd.int kk).C W A n row) (hn : 0 < n) :
    ∃ ad, A = some ad ∧ ∀ j v, (row.map (Value.int kk))[j]? = some v → W.cell? (ad.add j) = some v := by
  obtain ⟨ad2, e2, hc2⟩ := h.2.2 hn
  refine ⟨ad2, e2, fun j v hj => ?_⟩
  rw [List.getElem?_map] at hj
  obtain ⟨x, hx, rfl⟩ := Option.map_eq_some_iff.1 hj
  obtain ⟨c, _, hc, hcc⟩ := hc2 j x hx
  subst hc
  have := hcc 0 _ rfl
  rwa [show j * (Kd.int kk).sz + 0 = j from by simp [Kd.int, Kd.scalar]] at this

set_option maxHeartbeats 1000000 in
theorem gridOf_calls (A0 : Option Addr) (c0 : Nat) (l0 : List (List Int)) (w : World) (hr0 : Kd.C (Kd.slice 5 (Kd.int .u8)) w A0 4 l0) (hg : isGrid l0 = true) :
    Calls Try.prog 26 #[.slice A0 4 c0] w fun e w' => e = .returned (.pointer (some ⟨w.heap.size, 0, none⟩)) ∧ GridAt w' w.heap.size (laidK l0 4) ∧ Below w.heap.size w w' := by
  have HR := Aside0.mk hr0
  have HGR := Aside0.mk hg
  clear hr0 hg
  go_enter Try.func26, Try.ntmps26
  go_wp2
  go_loopw [9] (fun i wr => ∃ k : Nat, k ≤ 4 ∧ i = .int .i64 k ∧ Aside0 (GridAt wr w.heap.size (laidK l0 k)) ∧ Aside0 (Below w.heap.size w wr)) (fun i _ => 4 - (intOf i).toNat)
  case atStart => exact ⟨0, Nat.zero_le _, rfl, ⟨by unfold GridAt; show _ = some (Obj.cells ((List.replicate 20 (0 : Int)).map (Value.int .u8)).toArray 52 (0, 0)); rw [zeros20]; simpa using heap_alloc_new w _⟩, ⟨(Below.refl _ _).alloc (Nat.le_refl _) _⟩⟩
  case round =>
    obtain ⟨k, hk, rfl, HG, HB⟩ := hrel
    by_cases hlt : k < 4
    · obtain ⟨ad, A1, c1, e, hcell, _, hrow⟩ := at_L3 HR.out (k : Int) (by omega) (by omega)
      cases e
      rw [Int.toNat_natCast] at hcell
      replace hcell := (HB.out.cell (World.block_lt_of_cell? w _ hcell)).trans hcell
      have hrl : (rd_L3 l0 k).length = 4 := by unfold rd_L3; rw [Int.toNat_natCast]; exact grid_row HGR.out k hlt
      have hn : rd_L3 l0 k = l0.getD k [] := by unfold rd_L3; rw [Int.toNat_natCast]
      generalize hrr : rd_L3 l0 k = row at hcell hrow hrl hn
      rw [hrl] at hcell hrow
      obtain ⟨ad2, e2, hcells⟩ := C_cells hrow (by omega)
      subst e2
      have HP : Aside0 (∀ j v, (row.map (Value.int .u8))[j]? = some v → wr.cell? (ad2.add j) = some v) := ⟨fun j v hj => (HB.out.cell (World.block_lt_of_cell? w _ (hcells j v hj))).trans (hcells j v hj)⟩
      have Hn := Aside0.mk hn
      have Hl := Aside0.mk hrl
      have hlen := laidK_len HGR.out k hk
      have HL := Aside0.mk hlen
      clear hrow hn hrl hrr hlen hcells
      go_wp2_with ((with_reducible refine gate_builtin (b := .copy) (xs := #[.tmp 18, .tmp 19]) rfl ?_); refine wpList_copy_splice rfl (.tmp 18) (.tmp 19) 23 23 rfl 5 Try.underlying23 ?cinfo (some ⟨w.heap.size, k * 5, none⟩) (some ad2) 5 5 4 c1 rfl rfl w.heap.size (k * 5) ((laidK l0 k).map (Value.int .u8)) 52 HG.out (row.map (Value.int .u8)) ?cn (fun _ => ⟨rfl, ad2, rfl, HP.out⟩) ?cfit ?cone w.heap.size w HB.out (Nat.le_refl _) ?_)
      case cinfo => have := info5; revert this; generalize Try.prog.info? 5 = i5; intro h5; cases i5 <;> simp_all
      case cn => rw [List.length_map, Hl.out]; rfl
      case cfit => rw [List.length_map, List.length_map, Hl.out, HL.out]; omega
      case cone => intro v hv; obtain ⟨x, _, rfl⟩ := List.mem_map.1 hv; rfl
      intro w2 hg2 hb2
      rw [splice_map, Hn.out, laidK_next HGR.out k hlt] at hg2
      have HG2 : Aside0 (GridAt w2 w.heap.size (laidK l0 (k + 1))) := ⟨hg2⟩
      have HB2 := Aside0.mk hb2
      clear hg2 hb2 HG HB
      go_wp2
      go_roundw
      case rel => exact ⟨k + 1, by omega, by go_num, HG2, HB2⟩
      case measure => simp [intOf]; omega
    · obtain rfl : k = 4 := by omega
      go_wp2
      go_ret
      exact ⟨rfl, HG.out, HB.out⟩

def sumOf (gs : List Int) (l : List S62) : Int := l.foldl (fun acc p => Go.bits .xor .u8 acc (gs.getD (p.f0.toNat * 5 + p.f1.toNat) 0)) 0
theorem sumOf_succ (gs : List Int) (l : List S62) (k : Nat) (h : k < l.length) : sumOf gs (l.take (k + 1)) = Go.bits .xor .u8 (sumOf gs (l.take k)) (gs.getD ((l.getD k z62).f0.toNat * 5 + (l.getD k z62).f1.toNat) 0) := by
  unfold sumOf
  rw [List.take_succ_eq_append_getElem h, List.foldl_append]
  simp [List.getD_eq_getElem?_getD, List.getElem?_eq_getElem h]
theorem grid_cell {W : World} {b : Nat} {gs : List Int} (h : GridAt W b gs) (j : Nat) (hj : j < gs.length) : W.cell? ⟨b, j, none⟩ = some (.int .u8 (gs.getD j 0)) := by
  unfold World.cell?
  rw [h]
  simp [List.getElem?_eq_getElem hj, List.getD_eq_getElem?_getD]

theorem grid_below {W W' : World} {b : Nat} {gs : List Int} (h : GridAt W b gs) (hb : Below W.heap.size W W') : GridAt W' b gs :=
  (hb.block b (Array.getElem?_eq_some_iff.1 h).1).trans h
theorem grid_free {W : World} {b : Nat} {gs : List Int} (h : GridAt W b gs) (j : Nat) : W.frozen? ⟨b, j, none⟩ = false := by
  unfold World.frozen?
  rw [h]
  simp
theorem grid_set {W : World} {b : Nat} {gs : List Int} (h : GridAt W b gs) (j : Nat) (x : Int) : GridAt (W.setCell ⟨b, j, none⟩ (.int .u8 x)) b (gs.set j x) := by
  have := blk_set h j (.int .u8 x)
  simpa [GridAt] using this

set_option maxHeartbeats 1000000 in
theorem sum_calls (b : Nat) (gs : List Int) (A1 : Option Addr) (c1 : Nat) (l : List S62) (w : World) (hG : GridAt w b gs) (hlen : gs.length = 20) (hl : Kd.C k62 w A1 l.length l)
    (hin : ∀ p ∈ l, 0 ≤ p.f0 ∧ p.f0 < 4 ∧ 0 ≤ p.f1 ∧ p.f1 ≤ 4) :
    Calls Try.prog 27 #[.pointer (some ⟨b, 0, none⟩), .slice A1 l.length c1] w fun e w' => e = .returned (.int .u8 (sumOf gs l)) ∧ Below w.heap.size w w' := by
  have hm : l.length ≤ 9223372036854775807 := hl.2.1
  have hbw : b < w.heap.size := (Array.getElem?_eq_some_iff.1 hG).1
  have HL := Aside0.mk hl
  have HGD := Aside0.mk hG
  have HLN := Aside0.mk hlen
  have HIN := Aside0.mk hin
  have hu62 := Try.underlying62
  clear hl hG hlen hin
  go_enter Try.func27, Try.ntmps27
  go_wp2
  go_loopw [4, 9] (fun s i wr => ∃ k : Nat, k ≤ l.length ∧ i = .int .i64 k ∧ s = .int .u8 (sumOf gs (l.take k)) ∧ Aside0 (Below w.heap.size w wr)) (fun _ i _ => l.length - (intOf i).toNat)
  case atStart => exact ⟨0, Nat.zero_le _, rfl, rfl, ⟨Below.refl _ _⟩⟩
  case round =>
    obtain ⟨k, hk, rfl, rfl, HB⟩ := hrel
    by_cases hlt : k < l.length
    · obtain ⟨ad, e, hx0, hx1⟩ := at_T62 HL.out (k : Int) (by omega) (by omega)
      cases e
      have hpin := HIN.out (l.getD k z62) (by rw [List.getD_eq_getElem?_getD, List.getElem?_eq_getElem hlt]; exact List.getElem_mem hlt)
      have hs := sumOf_succ gs l k hlt
      rw [Int.toNat_natCast] at hx0 hx1
      have hrd : rd_T62 l k = l.getD k z62 := by unfold rd_T62; rw [Int.toNat_natCast]
      rw [hrd] at hx0 hx1
      generalize l.getD k z62 = p at hpin hs hx0 hx1
      obtain ⟨p0, p1⟩ := p
      simp only at hpin hs hx0 hx1
      obtain ⟨h0, h1, h2, h3⟩ := hpin
      obtain ⟨i, rfl⟩ := Int.eq_ofNat_of_zero_le h0
      obtain ⟨d, rfl⟩ := Int.eq_ofNat_of_zero_le h2
      replace hx0 := (HB.out.cell (World.block_lt_of_cell? w _ hx0)).trans hx0
      replace hx1 := (HB.out.cell (World.block_lt_of_cell? w _ hx1)).trans hx1
      rw [Int.toNat_natCast, Int.toNat_natCast] at hs
      have hc : ∀ o : Obj, (wr.alloc o).cell? ⟨b, i * 5 + d, none⟩ = some (.int .u8 (gs.getD (i * 5 + d) 0)) := fun o => by
        have := grid_cell HGD.out (i * 5 + d) (by rw [HLN.out]; omega)
        have hb := below_alloc HB.out o
        exact (hb.cell hbw).trans this
      generalize gs.getD (i * 5 + d) 0 = y at hs hc
      have HSS := Aside0.mk hs
      clear hs hrd
      go_wp2
      go_quiet (fail)
      go_wp2
      go_roundw
      case rel => exact ⟨k + 1, by omega, by go_num, by rw [HSS.out], ⟨by repeat (first | exact HB.out | apply below_alloc | apply pw_below_drewN | apply below_drew1)⟩⟩
      case measure => simp [intOf]; omega
    · obtain rfl : k = l.length := by omega
      go_wp2
      go_ret
      exact ⟨by rw [List.take_length]; rfl, HB.out⟩
end Go.Proofs.Ytpgakpeodddnkaa.C
