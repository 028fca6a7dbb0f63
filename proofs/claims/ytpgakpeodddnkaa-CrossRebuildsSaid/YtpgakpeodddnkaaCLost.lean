import Derived.Test.YtpgakpeodddnkaaCGrid
import Derived.DeepKeys4
import Derived.MapKept
import Derived.Maps.OwnSet
namespace Go.Proofs.Ytpgakpeodddnkaa.C
open Go.RowKit Go.Proofs.YtpgakpeodddnkaaW.PrintWords Go.Proofs.YtpgakpeodddnkaaW.PrintLast Go.Proofs.YtpgakpeodddnkaaW.PrintMore
open Go.ChangeMaps Go.MapKept

theorem laidOut : laidOutB Try.prog = true := by kernel_rfl
theorem row62 : (62 : TypeId) < Try.prog.types.size := of_decide_eq_true (by kernel_rfl)
theorem wide62 : (match Try.prog.underlying 62 with | some (.array _ _) | some (.struct _) => true | _ => false) = true := by rw [Try.underlying62]
theorem law62 : WideMaps.KeyLaw Try.prog 62 := deep_law_laid laidOut (m := 2) (by omega) row62 (by kernel_rfl) wide62

/-- a place as a key -/
def kv (p : Nat × Nat) : Value := .agg #[.int .i64 p.1, .int .i64 p.2]
theorem kv_inj {p q : Nat × Nat} (h : kv p = kv q) : p = q := by
  unfold kv at h
  injection h with h
  have h1 : (p.1 : Int) = q.1 ∧ (p.2 : Int) = q.2 := by simpa using h
  exact Prod.ext (by omega) (by omega)
def okp (p : Nat × Nat) : Prop := p.1 < 4 ∧ p.2 < 5
theorem key_ok (p : Nat × Nat) (h : okp p) : ∃ l, keyOf Try.prog 62 (kv p) = some l := by
  obtain ⟨i, k⟩ := p
  obtain ⟨hi, hk⟩ := h
  simp only at hi hk
  have h : ∀ i, i < 4 → ∀ k, k < 5 → (keyOf Try.prog 62 (kv (i, k))).isSome = true := by decide +kernel
  exact Option.isSome_iff_exists.1 (h i hi k hk)

/-- block m is a map whose keys are just the places L -/
def LostAt (W : World) (m : Nat) (L : List (Nat × Nat)) : Prop :=
  ∃ es clock, W.heap[m]? = some (.map es clock) ∧ (es.toList.map (·.key)).Perm (L.map kv) ∧ L.Nodup ∧ (∀ p ∈ L, okp p) ∧ (∀ e ∈ es.toList, e.born < clock)

theorem keys_ok {es : Array MapEntry} {L : List (Nat × Nat)} (hp : (es.toList.map (·.key)).Perm (L.map kv)) (hL : ∀ p ∈ L, okp p) : ∀ e ∈ es.toList, ∃ l, keyOf Try.prog 62 e.key = some l := by
  intro e he
  have h1 : e.key ∈ L.map kv := hp.subset (List.mem_map_of_mem he)
  obtain ⟨q, hq, hk⟩ := List.mem_map.1 h1
  rw [← hk]
  exact key_ok q (hL q hq)
theorem mem_keys {es : Array MapEntry} {L : List (Nat × Nat)} (hp : (es.toList.map (·.key)).Perm (L.map kv)) {p : Nat × Nat} : (∃ e ∈ es.toList, e.key = kv p) ↔ p ∈ L := by
  constructor
  · rintro ⟨e, he, hk⟩
    have h1 : kv p ∈ L.map kv := hp.subset (List.mem_map.2 ⟨e, he, hk⟩)
    obtain ⟨q, hq, hk2⟩ := List.mem_map.1 h1
    rw [← kv_inj hk2]; exact hq
  · intro h
    obtain ⟨e, he, hk⟩ := List.mem_map.1 (hp.symm.subset (List.mem_map_of_mem (f := kv) h))
    exact ⟨e, he, hk⟩
theorem keys_nodup {es : Array MapEntry} {L : List (Nat × Nat)} (hp : (es.toList.map (·.key)).Perm (L.map kv)) (hn : L.Nodup) : (es.toList.map (·.key)).Nodup := by
  rw [hp.nodup_iff]
  exact List.Pairwise.map kv (fun a b h e => h (kv_inj e)) hn

theorem lost_len {W : World} {m : Nat} {L : List (Nat × Nat)} (h : LostAt W m L) (ty : TypeId) : (Builtin.len_ #[58] ty #[.map (some m)]).run Try.prog W = .ok (.int .i64 L.length) W := by
  obtain ⟨es, clock, hb, hp, _, _, _⟩ := h
  have hl : es.size = L.length := by have := hp.length_eq; simpa using this
  simp [Builtin.len_, run_underlying Try.underlying58, MapKept.run_getObj_map hb, Result.andThen, goInt, hl]

theorem nodup_idx {α : Type} {l : List α} (h : l.Nodup) {i j : Nat} {x : α} (hi : l[i]? = some x) (hj : l[j]? = some x) : i = j := by
  obtain ⟨hil, hie⟩ := List.getElem?_eq_some_iff.1 hi
  obtain ⟨hjl, hje⟩ := List.getElem?_eq_some_iff.1 hj
  have hp := List.pairwise_iff_getElem.1 h
  rcases Nat.lt_trichotomy i j with hlt | rfl | hlt
  · exact absurd (hie.trans hje.symm) (hp i j hil hjl hlt)
  · rfl
  · exact absurd (hje.trans hie.symm) (hp j i hjl hil hlt)
theorem permErase {α : Type} : ∀ {l : List α} {j : Nat} {x : α}, l[j]? = some x → (x :: l.eraseIdx j).Perm l
  | [], j, x, h => by simp at h
  | a :: r, 0, x, h => by simp at h; subst h; exact List.Perm.refl _
  | a :: r, j + 1, x, h => by
    have := permErase (l := r) (j := j) (x := x) (by simpa using h)
    exact (List.Perm.swap a x _).trans (this.cons a)
theorem mapErase {α β : Type} (f : α → β) : ∀ (l : List α) (j : Nat), (l.eraseIdx j).map f = (l.map f).eraseIdx j
  | [], _ => rfl
  | _ :: _, 0 => rfl
  | a :: r, j + 1 => by simp [List.eraseIdx, mapErase f r j]
theorem find_at {es : Array MapEntry} {L : List (Nat × Nat)} (hp : (es.toList.map (·.key)).Perm (L.map kv)) (hn : L.Nodup) (hL : ∀ p ∈ L, okp p) (p : Nat × Nat) (hok : okp p) :
    (p ∉ L ∧ ∀ W : World, (Instr.findKey 62 (kv p) es.toList).run Try.prog W = .ok none W) ∨
    (p ∈ L ∧ ∃ j e, es.toList[j]? = some e ∧ e.key = kv p ∧ ∀ W : World, (Instr.findKey 62 (kv p) es.toList).run Try.prog W = .ok (some (j, e.val)) W) := by
  obtain ⟨l, hl⟩ := key_ok p hok
  have hk := keys_ok hp hL
  have hnd := keys_nodup hp hn
  by_cases hm : p ∈ L
  · right
    obtain ⟨e, he, hke⟩ := (mem_keys hp).2 hm
    obtain ⟨j, hj⟩ := List.mem_iff_getElem?.1 he
    refine ⟨hm, j, e, hj, hke, fun W => ?_⟩
    rcases law62.find W hl es.toList hk with ⟨_, h2⟩ | ⟨j', e', h1, h2, h3⟩
    · exact absurd hke (h2 e he)
    · have hjj : j = j' := by
        refine nodup_idx hnd (i := j) (j := j') (x := kv p) ?_ ?_
        · rw [List.getElem?_map, hj, Option.map_some, hke]
        · rw [List.getElem?_map, h2, Option.map_some, h3]
      subst hjj
      rw [hj] at h2
      injection h2 with h2
      subst h2
      exact h1
  · left
    refine ⟨hm, fun W => ?_⟩
    rcases law62.find W hl es.toList hk with ⟨h1, _⟩ | ⟨j', e', _, h2, h3⟩
    · exact h1
    · exact absurd ((mem_keys hp).1 ⟨e', List.mem_of_getElem? h2, h3⟩) hm

theorem zero3 (W : World) : (zeroValue 3).run Try.prog W = .ok (.int .i64 0) W := by kernel_rfl

/-- 'v, lost := m[p]': whether it is one of the keys. -/
theorem lost_look {W : World} {m : Nat} {L : List (Nat × Nat)} (h : LostAt W m L) (p : Nat × Nat) (hok : okp p) :
    ∃ v : Value, ∀ W' : World, W'.heap[m]? = W.heap[m]? → (Instr.lookup 58 (.map (some m)) (kv p) true).run Try.prog W' = .ok (.tuple #[v, .bool (decide (p ∈ L))]) W' := by
  obtain ⟨es, clock, hb, hp, hn, hL, _⟩ := h
  obtain ⟨l, hl⟩ := key_ok p hok
  rcases find_at hp hn hL p hok with ⟨hm, hf⟩ | ⟨hm, j, e, hj, hke, hf⟩
  · refine ⟨.int .i64 0, fun W' hW => ?_⟩
    simp [Instr.lookup, run_underlying Try.underlying58, MapKept.run_getObj_map (hW.trans hb), law62.check W' _ hl, hf, Result.andThen, hm]
  · refine ⟨e.val, fun W' hW => ?_⟩
    simp [Instr.lookup, run_underlying Try.underlying58, MapKept.run_getObj_map (hW.trans hb), law62.check W' _ hl, hf, Result.andThen, hm]

/-- 'delete(m, p)' -/
theorem lost_delete {W : World} {m : Nat} {L : List (Nat × Nat)} (h : LostAt W m L) (p : Nat × Nat) (hok : okp p) :
    ∃ es clock, (∀ ty : TypeId, (Builtin.delete_ #[58, 62] ty #[.map (some m), kv p]).run Try.prog W = .ok (.tuple #[]) (setBlock W m (.map es clock))) ∧ LostAt (setBlock W m (.map es clock)) m (L.erase p) := by
  obtain ⟨es, clock, hb, hp, hn, hL, hs⟩ := h
  obtain ⟨l, hl⟩ := key_ok p hok
  have hml := (Array.getElem?_eq_some_iff.1 hb).1
  have hat : ∀ o, (setBlock W m o).heap[m]? = some o := fun o => by simp [setBlock, hml]
  rcases find_at hp hn hL p hok with ⟨hm, hf⟩ | ⟨hm, j, e, hj, hke, hf⟩
  · refine ⟨es, clock, ?_, es, clock, hat _, ?_, hn.erase _, fun q hq => hL q (List.mem_of_mem_erase hq), hs⟩
    · intro ty; simp [Builtin.delete_, run_underlying Try.underlying58, MapKept.run_getObj_map hb, law62.check W _ hl, hf, MapKept.run_setObj_map _ hb, Result.andThen, setBlock]
    · rw [List.erase_of_not_mem hm]; exact hp
  · have hjs : j < es.size := by simpa using (List.getElem?_eq_some_iff.1 hj).1
    have hsub : (es.eraseIdxIfInBounds j).toList = es.toList.eraseIdx j := by
      unfold Array.eraseIdxIfInBounds
      rw [dif_pos hjs]
      simp
    have hnd := keys_nodup hp hn
    refine ⟨es.eraseIdxIfInBounds j, clock, ?_, es.eraseIdxIfInBounds j, clock, hat _, ?_, hn.erase _, fun q hq => hL q (List.mem_of_mem_erase hq), fun x hx => ?_⟩
    · intro ty; simp [Builtin.delete_, run_underlying Try.underlying58, MapKept.run_getObj_map hb, law62.check W _ hl, hf, MapKept.run_setObj_map _ hb, Result.andThen, setBlock]
    · rw [hsub]
      have h1 : ((es.toList.eraseIdx j).map (·.key)) = (es.toList.map (·.key)).eraseIdx j := mapErase _ _ _
      rw [h1]
      have hjk : (es.toList.map (·.key))[j]? = some (kv p) := by rw [List.getElem?_map, hj, ← hke]; rfl
      have h2 := permErase hjk
      have h3 : (L.map kv).Perm (kv p :: (L.erase p).map kv) := (List.perm_cons_erase hm).map kv
      exact (List.perm_cons (kv p)).1 (h2.trans (hp.trans h3))
    · rw [hsub] at hx
      exact hs x ((List.eraseIdx_sublist _ _).subset hx)

theorem setBlock_at {W : World} {m : Nat} {o o' : Obj} (h : W.heap[m]? = some o) : (setBlock W m o').heap[m]? = some o' := by
  have hml := (Array.getElem?_eq_some_iff.1 h).1
  simp [setBlock, hml]
theorem setBlock_ne (W : World) {m b : Nat} (o : Obj) (h : b ≠ m) : (setBlock W m o).heap[b]? = W.heap[b]? := by
  simp [setBlock, Ne.symm h]
theorem setBlock_below {B : Nat} {w0 W : World} {m : Nat} (hb : Below B w0 W) (hm : B ≤ m) (o : Obj) : Below B w0 (setBlock W m o) :=
  ⟨hb.os, hb.tape, hb.output, by simpa [setBlock] using hb.size, fun k hk => (setBlock_ne W o (by omega)).trans (hb.block k hk)⟩

/-- is there an entry of that stamp? -/
def Born (W : World) (m : Nat) (s : Nat) : Prop := ∃ es clock, W.heap[m]? = some (.map es clock) ∧ ∃ e ∈ es.toList, e.born = s
/-- 'm[p] = ..', its first half: the entry is there, and its stamp. -/
theorem lost_entry {W : World} {m : Nat} {L : List (Nat × Nat)} (h : LostAt W m L) (p : Nat × Nat) (hok : okp p) (hnew : p ∉ L) :
    ∃ es clock s, (Instr.mapEntry 58 (.map (some m)) (kv p)).run Try.prog W = .ok (.tuple #[.int .i64 0, .int .i64 (s : Nat)]) (setBlock W m (.map es clock)) ∧ LostAt (setBlock W m (.map es clock)) m (p :: L) ∧
      Born (setBlock W m (.map es clock)) m s ∧ ∀ s', Born W m s' → Born (setBlock W m (.map es clock)) m s' := by
  obtain ⟨es, clock, hb, hp, hn, hL, hs⟩ := h
  obtain ⟨l, hl⟩ := key_ok p hok
  have hat : ∀ o, (setBlock W m o).heap[m]? = some o := fun o => setBlock_at hb
  rcases find_at hp hn hL p hok with ⟨hm, hf⟩ | ⟨hm, _⟩
  · refine ⟨es.push { key := kv p, val := .int .i64 0, born := clock }, clock + 1, clock, ?_, ⟨_, _, hat _, ?_, ?_, ?_, ?_⟩, ⟨_, _, hat _, _, by simp; exact .inr rfl, rfl⟩, ?_⟩
    · simp [Instr.mapEntry, run_underlying Try.underlying58, MapKept.run_getObj_map hb, law62.check W _ hl, hf, MapKept.run_setObj_map _ hb, Result.andThen, setBlock, goInt]
    · simp only [Array.toList_push, List.map_append, List.map_cons, List.map_nil]
      exact (List.perm_append_comm).trans (hp.cons (kv p))
    · exact List.nodup_cons.2 ⟨hm, hn⟩
    · intro q hq
      rcases List.mem_cons.1 hq with rfl | hq
      · exact hok
      · exact hL q hq
    · intro e he
      simp only [Array.toList_push, List.mem_append, List.mem_singleton] at he
      rcases he with he | rfl
      · have := hs e he; omega
      · simp
    · rintro s' ⟨es', c', hb', e, he, hes⟩
      rw [hb] at hb'
      injection hb' with hb'
      injection hb' with h1 h2
      subst h1 h2
      exact ⟨_, _, hat _, e, by simp [he], hes⟩
  · exact absurd hm hnew
/-- its second half: the value is laid. -/
theorem lost_store {W : World} {m : Nat} {L : List (Nat × Nat)} (h : LostAt W m L) (s : Nat) (hb' : Born W m s) (v : Value) :
    ∃ es clock, (Instr.entryStore 58 (.map (some m)) (.int .i64 s) v).run Try.prog W = .ok () (setBlock W m (.map es clock)) ∧ LostAt (setBlock W m (.map es clock)) m L ∧ ∀ s', Born W m s' → Born (setBlock W m (.map es clock)) m s' := by
  obtain ⟨es, clock, hb, hp, hn, hL, hs⟩ := h
  have hat : ∀ o, (setBlock W m o).heap[m]? = some o := fun o => setBlock_at hb
  obtain ⟨es1, c1, hb1, e, he, hes⟩ := hb'
  rw [hb] at hb1
  injection hb1 with hb1
  injection hb1 with h1 h2
  subst h1 h2
  cases hfi : es.findIdx? (fun e => (e.born : Int) == (s : Int)) with
  | none =>
    rw [Array.findIdx?_eq_none_iff] at hfi
    have := hfi e (by simpa using he)
    simp [hes] at this
  | some i =>
    have hkeys : (es.modify i fun e => { e with val := v }).toList.map (·.key) = es.toList.map (·.key) := by
      apply List.ext_getElem?
      intro j
      simp only [List.getElem?_map, Array.getElem?_toList, Array.getElem?_modify]
      split
      · cases es[j]? <;> rfl
      · rfl
    have hborn : (es.modify i fun e => { e with val := v }).toList.map (·.born) = es.toList.map (·.born) := by
      apply List.ext_getElem?
      intro j
      simp only [List.getElem?_map, Array.getElem?_toList, Array.getElem?_modify]
      split
      · cases es[j]? <;> rfl
      · rfl
    refine ⟨_, clock, ?_, ⟨_, _, hat _, by rw [hkeys]; exact hp, hn, hL, ?_⟩, ?_⟩
    · simp [Instr.entryStore, MapKept.run_getObj_map hb, asInt, asIntOf, hfi, MapKept.run_setObj_map _ hb, Result.andThen, setBlock]
    · intro x hx
      have : x.born ∈ es.toList.map (·.born) := hborn ▸ List.mem_map_of_mem hx
      obtain ⟨y, hy, hyb⟩ := List.mem_map.1 this
      rw [← hyb]; exact hs y hy
    · rintro s' ⟨es', c', hb', x, hx, hxs⟩
      rw [hb] at hb'
      injection hb' with hb'
      injection hb' with h1 h2
      subst h1 h2
      have : s' ∈ (es.modify i fun e => { e with val := v }).toList.map (·.born) := by rw [hborn, ← hxs]; exact List.mem_map_of_mem hx
      obtain ⟨y, hy, hyb⟩ := List.mem_map.1 this
      exact ⟨_, _, hat _, y, hy, hyb⟩
end Go.Proofs.Ytpgakpeodddnkaa.C
