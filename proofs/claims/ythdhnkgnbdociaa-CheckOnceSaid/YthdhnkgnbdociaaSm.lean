/- The engine, part 5: slices that are made, written, appended to, copied into. No condition. -/
import Derived.Test.YthdhnkgnbdociaaSl
set_option linter.all false
namespace Go.Proofs.Ythdhnkgnbdociaa
open Go Go.RowKit

section
variable {α : Type} (E : Elem α)
theorem flat_replicate_get (z : α) (n : Nat) : ∀ j, j < n * E.sz → (E.flat (List.replicate n z))[j]? = (E.val z).cells[j % E.sz]? := by
  intro j hj
  have h1 : j / E.sz < n := Nat.div_lt_of_lt_mul (by rw [Nat.mul_comm]; exact hj)
  have h2 : j % E.sz < E.sz := Nat.mod_lt _ E.pos
  have := E.flat_get (List.replicate n z) (j / E.sz) (j % E.sz) (by simpa using h1) h2
  rw [Nat.mul_comm, Nat.div_add_mod] at this
  simpa using this
theorem madeCells_flat (z : α) (n : Nat) {cs : Array Value} (h : cs = (E.val z).cells) : (madeCells cs (n * E.sz)).toList = E.flat (List.replicate n z) := by
  subst h
  apply List.ext_getElem?
  intro j
  by_cases hj : j < n * E.sz
  · rw [flat_replicate_get E z n j hj]
    have h2 : j % E.sz < (E.val z).cells.size := by rw [E.size]; exact Nat.mod_lt _ E.pos
    simp [madeCells, hj, E.size, h2]
    rw [Array.getElem?_eq_getElem h2]
    exact congrArg some (getElem!_pos (E.val z).cells (j % E.sz) h2)
  · rw [List.getElem?_eq_none (by simp [size_madeCells]; omega), List.getElem?_eq_none (by rw [E.flat_length]; simp; omega)]
theorem fill_parts (sz : Nat) : ∀ (vs : List Value) (k : Nat) (cells : Array Value), (∀ v ∈ vs, v.cells.size = sz) → (k + vs.length) * sz ≤ cells.size →
    Instr.fill (fun i => some (i * sz, sz)) cells (vs.zipIdx k |>.map fun (v, i) => (i, v)) = some (cells.toList.take (k * sz) ++ vs.flatMap (fun v => v.cells.toList) ++ cells.toList.drop ((k + vs.length) * sz)).toArray
  | [], k, cells, _, h => by simp [Instr.fill]
  | v :: vs, k, cells, h, hl => by
    have hv := h v (by simp)
    have hl' : (k + 1 + vs.length) * sz ≤ cells.size := by rw [List.length_cons] at hl; rwa [Nat.add_right_comm, Nat.add_assoc]
    have hk1 : k * sz + sz = (k + 1) * sz := by rw [Nat.add_mul]; omega
    have hk2 : (k + 1) * sz ≤ (k + 1 + vs.length) * sz := Nat.mul_le_mul_right _ (by omega)
    have key : ∀ (cs : List Value) (off : Nat) (a : Array Value), off + cs.length ≤ a.size → (cs.zipIdx.foldl (fun a (c, j) => a.setIfInBounds (off + j) c) a) = (a.toList.take off ++ cs ++ a.toList.drop (off + cs.length)).toArray := by
      intro cs off a hle
      have gen : ∀ (cs : List Value) (i : Nat) (a : Array Value), off + i + cs.length ≤ a.size → (cs.zipIdx i).foldl (fun a (c, j) => a.setIfInBounds (off + j) c) a = (a.toList.take (off + i) ++ cs ++ a.toList.drop (off + i + cs.length)).toArray := by
        intro cs
        induction cs with
        | nil => intro i a _; simp
        | cons c cs ih =>
          intro i a hle
          rw [List.zipIdx_cons, List.foldl_cons, ih (i + 1) _ (by simp at hle ⊢; omega)]
          have e := list_seg_step a.toList (off + i) c cs (by simp at hle ⊢; omega)
          simpa [Array.toList_setIfInBounds, Nat.add_assoc] using congrArg List.toArray e
      have := gen cs 0 a (by simpa using hle)
      simpa using this
    have hs := key v.cells.toList (k * sz) cells (by simp [hv]; omega)
    simp only [List.zipIdx_cons, List.map_cons, Instr.fill, hv]
    rw [if_neg (by simp; omega)]
    have e2 : v.cells.zipIdx.foldl (fun cs (c, j) => cs.setIfInBounds (k * sz + j) c) cells = (cells.toList.take (k * sz) ++ v.cells.toList ++ cells.toList.drop (k * sz + v.cells.toList.length)).toArray := by
      rw [← hs, ← Array.foldl_toList]; simp
    rw [e2, fill_parts sz vs (k + 1) _ (fun u hu => h u (by simp [hu])) (by simp [hv]; omega)]
    congr 2
    have hlen : v.cells.toList.length = sz := by simpa using hv
    have hlt : (cells.toList.take (k * sz)).length = k * sz := by simp; omega
    simp only [List.toList_toArray, hlen, hk1, List.flatMap_cons, List.length_cons]
    rw [List.take_append_of_le_length (by simp [hlen]; omega), List.take_of_length_le (by simp [hlen]; omega)]
    rw [List.drop_append, List.drop_eq_nil_of_le («as» := cells.toList.take (k * sz) ++ v.cells.toList) (by simp [hlen]; omega)]
    have : (cells.toList.take (k * sz) ++ v.cells.toList).length = (k + 1) * sz := by simp [hlen]; omega
    rw [this, List.drop_drop]
    have e3 : (k + 1) * sz + ((k + 1 + vs.length) * sz - (k + 1) * sz) = (k + (vs.length + 1)) * sz := by
      rw [show k + (vs.length + 1) = k + 1 + vs.length by omega]; omega
    rw [e3]; simp
end

section
variable {P : Program} {f : Fr} {σ σ' : St} {ty : TypeId} {A B : Option Addr} {n m c d : Nat} {α : Type} {E : Elem α} {xs ys : List α} {t t' e : TypeId} {bytes : Nat}

theorem SL.cut_ {l u : Nat} (h : SL σ A n c E xs) (h1 : l ≤ u) (h2 : u ≤ n) : SL σ (cutA E A l u c) (u - l) (c - l) E ((xs.drop l).take (u - l)) := by
  have hl := h.len; have hm := h.max; have hc := h.le
  refine ⟨by simp; omega, by omega, by omega, fun x hx => h.ok x (List.mem_of_mem_drop (List.mem_of_mem_take hx)), ?_⟩
  by_cases hul : u - l = 0
  · exact .inl hul
  · refine .inr ?_
    rcases h.rd with h0 | ⟨b, o, ha, hb, hlt, hc⟩
    · omega
    · unfold cutA
      rw [if_neg (by omega)]
      refine ⟨b, o + l * E.sz, by rw [ha]; simp [add_at], hb, hlt, fun j v hj => ?_⟩
      rw [← E.flat_take, List.getElem?_take] at hj
      split at hj
      · rw [← E.flat_drop, List.getElem?_drop] at hj
        rw [Nat.add_assoc]; exact hc _ _ hj
      · cases hj
instance SL.cut {l u : Nat} [h : SL σ A n c E xs] [a1 : LeN l u] [a2 : LeN u n] : SL σ (cutA E A l u c) (u - l) (c - l) E ((xs.drop l).take (u - l)) := h.cut_ a1.le a2.le

/-- the world behind an append or a make, as a state -/
theorem st_grown {A' : Option Addr} {w' : World} {n' c' : Nat} (hm : ∀ a, A = some a → σ.M a.block) (hty : ∀ a, A = some a → ∃ cs fz, σ.w.heap[a.block]? = some (.cells cs t fz))
    (hg : σ.w.grownBy w' (Value.ownBlock (.slice A n c))) (hz : ∀ a, A' = some a → a.block < w'.heap.size) (hat : (Value.slice A' n' c').ownBlock = (Value.slice A n c).ownBlock ∨ (Value.slice A' n' c').ownBlock = some σ.w.heap.size) :
    ∃ σ' : St, σ'.w = w' ∧ NxP σ σ' (.row A t) ∧ (∀ a, A' = some a → σ'.M a.block) ∧ RowNew σ A A' := by
  have hob : ∀ (B : Option Addr) (x y : Nat), (Value.slice B x y).ownBlock = B.map (·.block) := fun B x y => by cases B <;> rfl
  simp only [hob] at hg hat
  have hwf : ∀ b, (σ.M b ∨ ∃ a, A' = some a ∧ a.block = b) → b < w'.heap.size := by
    rintro b (h | ⟨a, ha, rfl⟩)
    · exact Nat.lt_of_lt_of_le (σ.wf b h) hg.size
    · exact hz a ha
  have hin : ∀ a, A' = some a → (∃ a0, A = some a0 ∧ a0.block = a.block) ∨ a.block = σ.w.heap.size := by
    intro a ha
    rw [ha] at hat
    rcases hat with e | e
    · cases hA : A with
      | none => rw [hA] at e; cases e
      | some a0 => rw [hA] at e; simp at e; exact .inl ⟨a0, rfl, e.symm⟩
    · simp at e; exact .inr e
  refine ⟨⟨w', fun b => σ.M b ∨ ∃ a, A' = some a ∧ a.block = b, hwf⟩, rfl, ⟨hg.os, hg.tape, hg.output, hg.size, fun b hb hnm => hg.block b hb (fun e => ?_), ?_, fun b hb hx => ⟨hg.block b hb (fun e => hx ?_), fun h => .inl h⟩, hty⟩, fun a ha => .inr ⟨a, ha, rfl⟩, ⟨fun a' ha' => ?_⟩⟩
  · cases hA : A with
    | none => rw [hA] at e; cases e
    | some a0 => rw [hA] at e; simp at e; subst e; exact hnm (hm a0 hA)
  · rintro b hb (h | ⟨a, ha, rfl⟩)
    · exact h
    · rcases hin a ha with ⟨a0, h0, e⟩ | e
      · rw [← e]; exact hm a0 h0
      · omega
  · cases hA : A with
    | none => rw [hA] at e; cases e
    | some a0 => rw [hA] at e; simp at e; exact ⟨a0, rfl, e.symm⟩
  · rcases hin a' ha' with h | h
    · exact .inl h
    · exact .inr (by omega)

theorem Elem.flat_size (E : Elem α) (xs : List α) : (E.flat xs).toArray.size = xs.length * E.sz := by simp [E.flat_length]
theorem zeroCells_flat (E : Elem α) (z : α) (n : Nat) {cs : Array Value} (h : cs = (E.val z).cells) : Builtin.zeroCells cs n = (E.flat (List.replicate n z)).toArray := by
  have h2 : cs.size = E.sz := by rw [h, E.size]
  have := madeCells_flat E z n h
  apply Array.ext'
  rw [← this]
  simp [Builtin.zeroCells, madeCells, h2]
/-- what stands in a row's block, a part of it written -/
theorem flat_splice (E : Elem α) (zs ys : List α) (u : Nat) (h : u + ys.length ≤ zs.length) :
    ((E.flat zs).toArray.toList.take (u * E.sz) ++ E.flat ys ++ (E.flat zs).toArray.toList.drop (u * E.sz + (E.flat ys).length)).toArray = (E.flat (zs.take u ++ ys ++ zs.drop (u + ys.length))).toArray := by
  rw [E.flat_append, E.flat_append, ← E.flat_take, ← E.flat_drop, E.flat_length, Nat.add_mul]
theorem Row.mk_ {A' : Option Addr} {n' c' b : Nat} {zs : List α} (hl : xs.length = n') (hle : n' ≤ c') (hmx : c' ≤ maxLen) (ea : A' = some ⟨b, 0, none⟩) (hh : σ.w.heap[b]? = some (.cells (E.flat zs).toArray t (0, 0))) (hz : zs.length = c') (hx : zs.take n' = xs) (hok : ∀ z ∈ zs, E.ok σ z) (hm : σ.M b) : Row σ A' n' c' t E xs :=
  ⟨hl, fun x h => hok x (by rw [← hx] at h; exact List.mem_of_mem_take h), hle, hmx, .inr ⟨b, zs, ea, hh, hz, hx, hok⟩, fun a ha => by rw [ea] at ha; injection ha with ha; subst ha; exact hm⟩
/-- a row's block turns -/
theorem Row.set_ {b : Nat} {zs zs' : List α} (r : Row σ A n c t E xs) (ea : A = some ⟨b, 0, none⟩) (hh : σ.w.heap[b]? = some (.cells (E.flat zs).toArray t (0, 0))) {n' : Nat} {ys : List α} (hz : zs'.length = c) (hx : zs'.take n' = ys) (hle : n' ≤ c) (hok : ∀ z ∈ zs', E.ok σ z) :
    ∃ σ' : St, σ'.w = σ.w.setRow b (E.flat zs').toArray ∧ NxP σ σ' (.row A t) ∧ Row σ' A n' c t E ys := by
  obtain ⟨σ', hw, hnx, ho⟩ := st_set (σ := σ) (b := b) (t := t) (cs := (E.flat zs).toArray) ⟨r.m _ ea, hh⟩ (E.flat zs').toArray
  have hn : NxP σ σ' (.row A t) := ⟨hnx.os, hnx.tape, hnx.output, hnx.size, hnx.imm, hnx.mm, fun k hk hx => hnx.own k hk (fun e => hx ⟨_, ea, e.symm⟩), r.typed⟩
  exact ⟨σ', hw, hn, Row.mk_ (by rw [← hx]; simp; omega) hle r.max ea ho.h hz hx (fun z h => E.nx _ _ _ _ hn (hok z h)) ho.m⟩

/-- append of a slice to a row of the call's own, from place u on -/
theorem append_row {z : α} {u : Nat} (r : Row σ A n c e E xs) (s : Rd σ B m d E ys) (ut : U P t (.slice e)) (eo : ElemOf P e E bytes) (ze : ZeroE P e E z) (hu : u ≤ n) (hb : (u + m) * bytes ≤ 140737488355328) (hmx0 : u + m ≤ 9223372036854775807) :
    ∃ σ' A' c', (Builtin.append_ #[t, t] ty #[.slice A u c, .slice B m d]).run P σ.w = .ok (.slice A' (u + m) c') σ'.w ∧ NxP σ σ' (.row A e) ∧ RowNew σ A A' ∧ Row σ' A' (u + m) c' e E (xs.take u ++ ys) ∧ (u + m ≤ c → A' = A ∧ c' = c) := by
  have hmx : u + m ≤ maxLen := by simp only [maxLen]; omega
  obtain ⟨d0, i, hd0, hag, hi, hsz, hby⟩ := eo.ti.h
  obtain ⟨i', zv, hi', hz, hzc⟩ := ze.h
  rw [hi] at hi'; injection hi' with hi'; subst hi'
  have hlen : xs.length = n := r.len
  have hl2 : ys.length = m := s.len
  have hpos := E.pos
  have hzs : zv.cells.size = i.size := by rw [hzc, E.size, hsz]
  have cells_ys : ∀ ad, B = some ad → ∀ j v, (E.flat ys)[j]? = some v → σ.w.cell? (ad.add j) = some v := by
    intro ad hB j v hv
    rcases s.rd with h0 | ⟨b, o, ha, hc⟩
    · have hy : ys = [] := List.eq_nil_of_length_eq_zero (by omega)
      subst hy
      simp [Elem.flat] at hv
    · rw [hB] at ha; injection ha with ha; subst ha
      rw [add_at]; exact hc j v hv
  have hlx : (xs.take u ++ ys).length = u + m := by simp [hl2]; omega
  have okx : ∀ {σ' : St} {X : Xs}, NxP σ σ' X → ∀ k, ∀ x ∈ xs.take u ++ ys ++ List.replicate k z, E.ok σ' x := by
    intro σ' X hn k x hx
    rcases List.mem_append.1 hx with hx | hx
    · rcases List.mem_append.1 hx with hx | hx
      · exact E.nx _ _ _ _ hn (r.ok x (List.mem_of_mem_take hx))
      · exact E.nx _ _ _ _ hn (s.ok x hx)
    · rw [(List.mem_replicate.1 hx).2]; exact ze.ok _
  -- what growing comes to
  have grown : ∀ old, old < u + m → ∃ σ', σ'.w = σ.w.drew.alloc (.cells ((E.flat (xs.take u)).toArray ++ (E.flat ys).toArray ++ Builtin.zeroCells zv.cells (grownCap σ.w (u + m) old e - (u + m))) e) ∧ NxP σ σ' (.row A e) ∧
      RowNew σ A (some ⟨σ.w.heap.size, 0, none⟩) ∧ Row σ' (some ⟨σ.w.heap.size, 0, none⟩) (u + m) (grownCap σ.w (u + m) old e) e E (xs.take u ++ ys) := by
    intro old ho
    have hge := grownCap_ge σ.w (u + m) old e
    have hcm : grownCap σ.w (u + m) old e ≤ maxLen := grownCap_le_maxLen σ.w (u + m) old e hmx
    obtain ⟨σ1, hw1, hn1⟩ := st_drew σ (σ.w.drawn + 1)
    obtain ⟨σ2, hw2, hn2, hm2, hm2', ho2, hs2⟩ := st_new σ1 (.cells ((E.flat (xs.take u)).toArray ++ (E.flat ys).toArray ++ Builtin.zeroCells zv.cells (grownCap σ.w (u + m) old e - (u + m))) e) True
    have hz1 : σ1.w.heap.size = σ.w.heap.size := by rw [hw1]
    have hd : σ1.w = σ.w.drew := hw1
    have hn3 : NxP σ σ2 (.row A e) := ⟨hn2.os.trans hn1.os, hn2.tape.trans hn1.tape, hn2.output.trans hn1.output, Nat.le_trans hn1.size hn2.size, fun b hb hb' => (hn2.imm b (by omega) (fun h => hb' (hn1.mm b hb h))).trans (hn1.imm b hb hb'),
      fun b hb h => hn1.mm b hb (hn2.mm b (by omega) h), fun b hb _ => ⟨((hn2.own b (by omega) id).1).trans (hn1.own b hb id).1, fun h => (hn2.own b (by omega) id).2 ((hn1.own b hb id).2 h)⟩, r.typed⟩
    have hfl : (E.flat (xs.take u)).toArray ++ (E.flat ys).toArray ++ Builtin.zeroCells zv.cells (grownCap σ.w (u + m) old e - (u + m)) = (E.flat (xs.take u ++ ys ++ List.replicate (grownCap σ.w (u + m) old e - (u + m)) z)).toArray := by
      rw [zeroCells_flat E z _ hzc]; simp [E.flat_append]
    refine ⟨σ2, by rw [hw2, hd], hn3, ⟨fun a' ha' => ?_⟩, Row.mk_ hlx hge hcm rfl (by rw [hz1] at ho2; rw [ho2, hfl]) (by simp [hlx, hl2]; omega) (by rw [List.take_append_of_le_length (by omega), List.take_of_length_le (by omega)]) (okx hn3 _) (by rw [hz1] at hm2; exact hm2.2 trivial)⟩
    injection ha' with ha'; subst ha'; exact .inr (Nat.le_refl _)
  rcases r.full with ⟨ea, hc0⟩ | ⟨b, zs, ea, hh, hzl, hzt, hzok⟩
  · have hle := r.le
    have hu0 : u = 0 := by omega
    have hn0 : n = 0 := by omega
    subst ea; subst hc0; subst hu0
    by_cases hm : m = 0
    · subst hm
      have hy : ys = [] := List.eq_nil_of_length_eq_zero hl2
      subst hy
      refine ⟨σ, none, 0, ?_, ⟨rfl, rfl, rfl, Nat.le_refl _, fun _ _ _ => rfl, fun _ _ h => h, fun _ _ _ => ⟨rfl, id⟩, nofun⟩, ⟨nofun⟩, ⟨rfl, by simp, Nat.le_refl _, r.max, .inl ⟨rfl, rfl⟩, nofun⟩, fun _ => ⟨rfl, rfl⟩⟩
      cases B <;> simp [Builtin.append_, run_underlying ut.h, sizeOf, typeInfo, hi, Builtin.lenOf, Builtin.firstCells, loadCells, loadCellsFrom]
    · have hB : ∃ ad, B = some ad := by
        rcases s.rd with h0 | ⟨b, o, ha, _⟩
        · omega
        · exact ⟨_, ha⟩
      obtain ⟨ad, rfl⟩ := hB
      have hr := run_append_nil (P := P) σ.w t ty e i zv ut.h hi hz ad m d (E.flat ys) (by rw [E.flat_length, hl2, hsz]) (cells_ys ad rfl) (by omega) (by omega) (by rw [hby]; simp only [Nat.zero_add] at hb; omega)
      obtain ⟨σ', hw, hn, hrn, hrow⟩ := grown 0 (by omega)
      simp only [Nat.zero_add, List.take_zero, Elem.flat_nil, List.nil_append, Array.empty_append] at hr hw hrow ⊢
      refine ⟨σ', _, _, ?_, hn, hrn, hrow, fun h => by omega⟩
      rw [hw]; exact hr
  · subst ea
    have hle := r.le
    have hfx : E.flat (xs.take u) = (E.flat zs).take (u * E.sz) := by rw [E.flat_take, ← hzt, List.take_take, Nat.min_eq_left hu]
    by_cases hroom : u + m ≤ c
    · have hsplice := flat_splice E zs ys u (by omega)
      obtain ⟨σ', hw, hn, hrow⟩ := r.set_ (n' := u + m) (zs' := zs.take u ++ ys ++ zs.drop (u + ys.length)) (ys := xs.take u ++ ys) rfl hh (by simp; omega)
        (by rw [List.take_append_of_le_length (by simp [hl2]; omega), List.take_of_length_le (by simp [hl2]; omega), ← hzt, List.take_take, Nat.min_eq_left hu]) hroom (fun z' hz' => by
          rcases List.mem_append.1 hz' with h | h
          · rcases List.mem_append.1 h with h | h
            · exact hzok z' (List.mem_of_mem_take h)
            · exact s.ok z' h
          · exact hzok z' (List.mem_of_mem_drop h))
      refine ⟨σ', _, _, ?_, hn, ⟨fun a' ha' => .inl ⟨a', ha', rfl⟩⟩, hrow, fun _ => ⟨rfl, rfl⟩⟩
      rw [hw, ← hsplice]
      cases B with
      | none =>
        have hm0 : m = 0 := by rcases s.rd with h0 | ⟨b, o, ha, _⟩; exact h0; cases ha
        have hy : ys = [] := List.eq_nil_of_length_eq_zero (by omega)
        subst hy
        subst hm0
        have e1 : (List.take (u * E.sz) (E.flat zs).toArray.toList ++ E.flat [] ++ List.drop (u * E.sz + (E.flat ([] : List α)).length) (E.flat zs).toArray.toList).toArray = (E.flat zs).toArray := by simp [Elem.flat_nil]
        have hroom' : u ≤ c := by omega
        rw [e1, setRow_self _ _ _ _ _ hh]
        simp [Builtin.append_, run_underlying ut.h, sizeOf, typeInfo, hi, Builtin.lenOf, Builtin.firstCells, hroom', storeCells]
      | some ad =>
        have hr := run_append_room (P := P) σ.w t ty e i ut.h hi b u c (E.flat zs).toArray hh ad m d (E.flat ys) (by rw [E.flat_length, hl2, hsz]) (cells_ys ad rfl) (E.flat_one) hroom (by rw [E.flat_size, E.flat_length, hl2, hzl, hsz, ← Nat.add_mul]; exact Nat.mul_le_mul_right _ hroom)
        rw [hsz] at hr
        exact hr
    · have hB : ∃ ad, B = some ad := by
        rcases s.rd with h0 | ⟨b, o, ha, _⟩
        · omega
        · exact ⟨_, ha⟩
      obtain ⟨ad, rfl⟩ := hB
      have holds : ∀ j v, (E.flat (xs.take u))[j]? = some v → σ.w.cell? ((⟨b, 0, none⟩ : Addr).add j) = some v := by
        intro j v hv
        rw [add_at, Nat.zero_add, cell_own hh]
        rw [hfx, List.getElem?_take] at hv
        split at hv
        · simpa using hv
        · cases hv
      have hr := run_append_grow (P := P) σ.w t ty e i zv ut.h hi hz ⟨b, 0, none⟩ u c (E.flat (xs.take u)) (by rw [E.flat_length, hsz]; congr 1; simp; omega) holds ad m d (E.flat ys) (by rw [E.flat_length, hl2, hsz]) (cells_ys ad rfl) (by omega) (by omega) (by rw [hby]; exact growslice_fits (by omega) hb)
      obtain ⟨σ', hw, hn, hrn, hrow⟩ := grown c (by omega)
      exact ⟨σ', _, _, by rw [hw]; exact hr, hn, hrn, hrow, fun h => by omega⟩
/-- append of a slice to a row of the call's own -/
instance Step.append {z : α} {x y : Operand} [h : Ev f x (.slice A n c)] [g : Ev f y (.slice B m d)] [u : U P t (.slice e)] [eo : ElemOf P e E bytes] [rq : RowQ σ A n c e E xs] [s : Rd σ B m d E ys] [ze : ZeroE P e E z] :
    Step P (.call { callee := .builtin .append, args := #[x, y], argTypes := #[t, t] }) ty f σ
      (fun K _ => ((n + m) * bytes ≤ 140737488355328 ∧ n + m ≤ 9223372036854775807) ∧ ∀ (σ' : St) (A' : Option Addr) (c' : Nat), Nx σ σ' (.row A e) → RowNew σ A A' → Row σ' A' (n + m) c' e E (xs ++ ys) → K (.slice A' (n + m) c') σ') := ⟨fun K E' hK => by
  obtain ⟨⟨hb, hmx0⟩, hK⟩ := hK
  have r := rq.row
  obtain ⟨σ', A', c', hrun, hn, hrn, hrow, _⟩ := append_row (ty := ty) r s u eo ze (Nat.le_refl n) hb hmx0
  have hr : (execOp (evo f) ⟨none, .call { callee := .builtin .append, args := #[x, y], argTypes := #[t, t] }, ty, "", #[], none⟩).run P σ.w = .ok (.value (.slice A' (n + m) c')) σ'.w := by
    simp [execOp, resolve, h.eq, g.eq, invoke, builtin, hrun]
  unfold OpW; rw [hr]
  rw [List.take_of_length_le (by rw [r.len]; exact Nat.le_refl _)] at hrow
  exact ⟨σ', rfl, hK σ' A' c' ⟨hn⟩ hrn hrow⟩⟩
/-- append in place, to the first ones of a row -/
instance (priority := low) Step.append_pre {z : α} {u c1 : Nat} {x y : Operand} [h : Ev f x (.slice A u c1)] [g : Ev f y (.slice B m d)] [r : Row σ A n c e E xs] [q : EqN c1 c] [l1 : LeN u n] [l2 : LeN (u + m) c] [s : Rd σ B m d E ys] [ut : U P t (.slice e)] [eo : ElemOf P e E bytes] [ze : ZeroE P e E z] :
    Step P (.call { callee := .builtin .append, args := #[x, y], argTypes := #[t, t] }) ty f σ
      (fun K _ => ((u + m) * bytes ≤ 140737488355328 ∧ u + m ≤ 9223372036854775807) ∧ ∀ (σ' : St), Nx σ σ' (.row A e) → Row σ' A (u + m) c e E (xs.take u ++ ys) → K (.slice A (u + m) c) σ') := ⟨fun K E' hK => by
  obtain ⟨⟨hb, hmx0⟩, hK⟩ := hK
  have e1 := q.eq
  subst e1
  obtain ⟨σ', A', c', hrun, hn, hrn, hrow, hin⟩ := append_row (ty := ty) r s ut eo ze l1.le hb hmx0
  obtain ⟨e2, e3⟩ := hin l2.le
  subst e2; subst e3
  have hr : (execOp (evo f) ⟨none, .call { callee := .builtin .append, args := #[x, y], argTypes := #[t, t] }, ty, "", #[], none⟩).run P σ.w = .ok (.value (.slice A' (u + m) c')) σ'.w := by
    simp [execOp, resolve, h.eq, g.eq, invoke, builtin, hrun]
  unfold OpW; rw [hr]
  exact ⟨σ', rfl, hK σ' ⟨hn⟩ hrow⟩⟩

/-- make([]T, n) -/
instance Step.make {z : α} {x y : Operand} {k k' : IntKind} {j : Int} [h : Ev f x (.int k j)] [g : Ev f y (.int k' j)] [q : ToNat j n] [u : U P t (.slice e)] [eo : ElemOf P e E bytes] [ze : ZeroE P e E z] :
    Step P (.makeSlice t x y) ty f σ
      (fun K _ => (n * bytes ≤ 140737488355328 ∧ n ≤ 9223372036854775807) ∧ ∀ (σ' : St) (A' : Option Addr), Nx σ σ' .no → RowNew σ none A' → Row σ' A' n n e E (List.replicate n z) → K (.slice A' n n) σ') := ⟨fun K E' hK => by
  obtain ⟨⟨hb, hmx0⟩, hK⟩ := hK
  have hmx : n ≤ maxLen := by simp only [maxLen]; omega
  obtain ⟨d0, i, hd0, hag, hi, hsz, hby⟩ := eo.ti.h
  obtain ⟨i', zv, hi', hz, hzc⟩ := ze.h
  rw [hi] at hi'; injection hi' with hi'; subst hi'
  have hj := q.eq
  subst hj
  have h63 : (n : Int) ≤ 9223372036854775807 := by
    have hm' := hmx
    simp only [maxLen] at hm'
    omega
  have hbb : (i.bytes : Int) * (n : Int) ≤ 281474976710656 := by
    rw [hby, ← Int.natCast_mul, Nat.mul_comm]; omega
  have hrun := run_make (P := P) σ.w t e i zv u.h hi hz k k' (n : Int) (n : Int) (by omega) (Int.le_refl _) hbb h63
  simp only [Int.toNat_natCast, hsz] at hrun
  obtain ⟨σ', hw, hn, hm, _, ho, hs⟩ := st_new σ (.cells (madeCells zv.cells (n * E.sz)) e) True
  have hr : (execOp (evo f) ⟨none, .makeSlice t x y, ty, "", #[], none⟩).run P σ.w = .ok (.value (.slice (some ⟨σ.w.heap.size, 0, none⟩) n n)) (σ.w.alloc (.cells (madeCells zv.cells (n * E.sz)) e)) := by
    simp [execOp, h.eq, g.eq, hrun]
  unfold OpW; rw [hr]
  have hfl := madeCells_flat E z n hzc
  refine ⟨σ', hw, hK σ' _ ⟨hn⟩ ⟨fun a' ha' => ?_⟩ (Row.mk_ (zs := List.replicate n z) (by simp) (Nat.le_refl _) hmx rfl (by rw [ho, ← hfl]) (by simp) (by simp) (fun x hx => by rw [(List.mem_replicate.1 hx).2]; exact ze.ok _) (hm.2 trivial))⟩
  injection ha' with ha'; subst ha'; exact .inr (Nat.le_refl _)⟩

class SmallE {α : Type} (E : Elem α) : Prop where
  le : E.sz ≤ 1000
class LenV (vs : List Value) (n : outParam Nat) : Prop where
  eq : vs.length = n
instance LenV.nil : LenV [] 0 := ⟨rfl⟩
instance LenV.one {a : Value} : LenV [a] 1 := ⟨rfl⟩
instance LenV.two {a b : Value} : LenV [a, b] 2 := ⟨rfl⟩
instance LenV.three {a b c : Value} : LenV [a, b, c] 3 := ⟨rfl⟩
instance LenV.four {a b c d : Value} : LenV [a, b, c, d] 4 := ⟨rfl⟩
/-- a literal, all elements told -/
class PartsL (f : Fr) (k : Nat) (ps : List (Nat × Operand)) (vs : outParam (List Value)) : Prop where
  eq : ps.map (fun p => (p.1, evo f p.2)) = (vs.zipIdx k).map fun (v, i) => (i, v)
instance PartsL.nil {k : Nat} : PartsL f k [] [] := ⟨rfl⟩
instance PartsL.cons {k : Nat} {x : Operand} {ps : List (Nat × Operand)} {v : Value} {vs : List Value} [h : Ev f x v] [g : PartsL f (k + 1) ps vs] : PartsL f k ((k, x) :: ps) (v :: vs) :=
  ⟨by simp [h.eq, g.eq]⟩

theorem run_buildSlice {len : Nat} {vs : List Value} {z : α} (u : U P t (.slice e)) (eo : ElemOf P e E bytes) (ze : ZeroE P e E z) (hl : vs.length = len) (hv : ∀ v ∈ vs, v.cells.size = E.sz) (hb : len * E.sz ≤ 16777216) (ps : Array (Nat × Value))
    (hp : ps.toList = vs.zipIdx.map fun (v, i) => (i, v)) (w : World) :
    (Instr.buildSlice t len ps).run P w = .ok (.slice (some ⟨w.heap.size, 0, none⟩) len len) (w.alloc (.cells (vs.flatMap (fun v => v.cells.toList)).toArray e)) := by
  obtain ⟨d0, i, hd0, hag, hi, hsz, hby⟩ := eo.ti.h
  obtain ⟨i', zv, hi', hz, hzc⟩ := ze.h
  rw [hi] at hi'; injection hi' with hi'; subst hi'
  have hf : ∀ cells : Array Value, cells.size = len * E.sz → Instr.fill (fun i => some (i * E.sz, E.sz)) cells ps.toList = some (vs.flatMap (fun v => v.cells.toList)).toArray := by
    intro cells hc
    rw [hp, fill_parts E.sz vs 0 cells hv (by simp [hl, hc])]
    simp [hl, hc]
  unfold Instr.buildSlice
  simp only [Sem.run_bind, run_underlying u.h, Result.andThen_ok, eo.ti.run_sizeOf]
  rw [if_neg (by omega)]
  by_cases h0 : len * E.sz = 0
  · simp [h0, hf, newRow, newObj, Sem.run]
  · simp [h0, zeroValue, typeInfo, hi, hz, hf, newRow, newObj, Sem.run]

theorem flat_map (xs : List α) : E.flat xs = (xs.map E.val).flatMap (fun v => v.cells.toList) := by simp [Elem.flat, List.flatMap_map]

/-- a literal of at least one element is read alone -/
instance Step.buildSlice {z : α} {len : Nat} {ps : List (Nat × Operand)} {vs : List Value} [pl : PartsL f 0 ps vs] [u : U P t (.slice e)] [eo : ElemOf P e E bytes] [ze : ZeroE P e E z] [el : EncL σ E vs xs] [ln : LenV vs len] [lb : EqB (Nat.ble len 10000) true] [se : SmallE E] :
    Step P (.buildSlice t len ps.toArray) ty f σ (fun K _ => ∀ (σ' : St) (A' : Option Addr), Nx σ σ' .no → SL σ' A' len len E xs → K (.slice A' len len) σ') := ⟨fun K E' hK => by
  have h1 := ln.eq
  have h3 := Nat.le_of_ble_eq_true lb.eq
  have h2 : len * E.sz ≤ 16777216 := Nat.le_trans (Nat.mul_le_mul h3 se.le) (by decide)
  obtain ⟨σ', hw, hn, hm, _, ho, hs⟩ := st_new σ (.cells (vs.flatMap (fun v => v.cells.toList)).toArray e) False
  have hvs : ∀ v ∈ vs, v.cells.size = E.sz := by
    intro v hv; rw [el.eq] at hv; obtain ⟨x, _, rfl⟩ := List.mem_map.1 hv; exact E.size x
  have hr : (execOp (evo f) ⟨none, .buildSlice t len ps.toArray, ty, "", #[], none⟩).run P σ.w = .ok (.value (.slice (some ⟨σ.w.heap.size, 0, none⟩) len len)) (σ.w.alloc (.cells (vs.flatMap (fun v => v.cells.toList)).toArray e)) := by
    have hp : (ps.toArray.map fun (i, x) => (i, evo f x)).toList = vs.zipIdx.map fun (v, i) => (i, v) := by
      simpa using pl.eq
    simp only [execOp, Sem.run_bind, run_buildSlice u eo ze h1 hvs h2 _ hp]; rfl
  unfold OpW; rw [hr]
  have hxl : xs.length = len := by rw [← h1, el.eq]; simp
  refine ⟨σ', hw, hK σ' _ ⟨hn⟩ ⟨hxl, Nat.le_refl _, by omega, fun x hx => E.nx _ _ _ _ hn (el.ok x hx), ?_⟩⟩
  by_cases h0 : len = 0
  · exact .inl h0
  · refine .inr ⟨σ.w.heap.size, 0, rfl, fun h => ?_, by omega, fun j v hj => ?_⟩
    · exact hm.1 h
    · rw [cell_own ho, Nat.zero_add]
      rw [flat_map, ← el.eq] at hj
      simpa using hj⟩

/-- an empty literal: a row of the call's own -/
instance (priority := high) Step.buildSlice0 {z : α} [u : U P t (.slice e)] [eo : ElemOf P e E bytes] [ze : ZeroE P e E z] :
    Step P (.buildSlice t 0 #[]) ty f σ (fun K _ => ∀ (σ' : St) (A' : Option Addr), Nx σ σ' .no → RowNew σ none A' → Row σ' A' 0 0 e E [] → K (.slice A' 0 0) σ') := ⟨fun K E' hK => by
  obtain ⟨σ', hw, hn, hm, _, ho, hs⟩ := st_new σ (.cells #[] e) True
  have hrun := run_buildSlice (P := P) (vs := []) (len := 0) u eo ze rfl (by simp) (by omega) #[] rfl σ.w
  have hr : (execOp (evo f) ⟨none, .buildSlice t 0 #[], ty, "", #[], none⟩).run P σ.w = .ok (.value (.slice (some ⟨σ.w.heap.size, 0, none⟩) 0 0)) (σ.w.alloc (.cells #[] e)) := by
    simp only [execOp, Sem.run_bind, List.map_toArray, List.map_nil, Array.map_empty]
    rw [hrun]; rfl
  unfold OpW; rw [hr]
  refine ⟨σ', hw, hK σ' _ ⟨hn⟩ ⟨fun a' ha' => ?_⟩ (Row.mk_ (zs := []) rfl (Nat.le_refl _) (Nat.zero_le _) rfl ho rfl rfl (by simp) (hm.2 trivial))⟩
  injection ha' with ha'; subst ha'; exact .inr (Nat.le_refl _)⟩
/-- an element of a row is written -/
instance Step.store_slot {x y : Operand} {i : Nat} {v : Value} {w : α} [h : Ev f x (slotV E A i)] [g : Ev f y v] [r : Row σ A n c e E xs] [l : IdxLt i n] [eo : ElemOf P t E bytes] [en : EncV σ E v w] :
    Step P (.store t x y) ty f σ (fun K _ => ∀ σ' : St, Nx σ σ' (.row A e) → Row σ' A n c e E (xs.set i w) → K undef σ') := ⟨fun K E' hK => by
  have hl := l.lt
  have hlen := r.len
  have hle := r.le
  rcases r.full with ⟨_, hn⟩ | ⟨b, zs, ea, hh, hzl, hzt, hzok⟩
  · omega
  subst ea
  have hv := en.eq
  subst hv
  have e0 : E.flat [w] = (E.val w).cells.toList := by simp [Elem.flat]
  have hsp := flat_splice E zs [w] i (by simp; omega)
  have hput : PutV (E.flat zs).toArray (i * E.sz) (E.val w).cells (E.flat (zs.take i ++ [w] ++ zs.drop (i + 1))).toArray := ⟨by
    rw [E.size, E.flat_size, ← Nat.succ_mul]; exact Nat.mul_le_mul_right _ (by omega), by
    rw [e0] at hsp
    rw [show i + 1 = i + [w].length from rfl, ← hsp]
    simp [putCells]⟩
  have hst := run_storeVar_own (P := P) (w := σ.w) eo.ti (b := b) (off := i * E.sz) (v := E.val w) ⟨rfl⟩ ⟨E.size w, E.one w⟩ hh hput
  have hset : zs.take i ++ [w] ++ zs.drop (i + 1) = zs.set i w := by
    rw [List.set_eq_take_append_cons_drop, if_pos (by omega), List.append_assoc]; rfl
  obtain ⟨σ', hw, hnx, hrow⟩ := r.set_ (n' := n) (zs' := zs.take i ++ [w] ++ zs.drop (i + 1)) (ys := xs.set i w) rfl hh (by rw [hset]; simpa using hzl) (by rw [hset, List.take_set, hzt]) hle (fun z' hz' => by
    rw [hset] at hz'
    rcases List.mem_or_eq_of_mem_set hz' with h | rfl
    · exact hzok z' h
    · exact en.ok)
  have hr : (execOp (evo f) ⟨none, .store t x y, ty, "", #[], none⟩).run P σ.w = .ok .skip (σ.w.setRow b (E.flat (zs.take i ++ [w] ++ zs.drop (i + 1))).toArray) := by
    simp [execOp, h.eq, g.eq, slotV, add_at, Instr.storeAt, Instr.sureAddr, hst]
  unfold OpW; rw [hr]
  exact ⟨σ', hw, hK σ' ⟨hnx⟩ hrow⟩⟩
end

/-! ### Calls that write a row of the caller's -/
class Sx (σ0 : St) (X : Xs) (σ : St) : Prop where
  p : NxP σ0 σ X
theorem NxP.comp {σ0 σ σ' : St} {X Y : Xs} (h : NxP σ0 σ X) (k : NxP σ σ' Y) (hy : ∀ b, b < σ0.w.heap.size → Y.hits b → X.hits b) : NxP σ0 σ' X :=
  ⟨k.os.trans h.os, k.tape.trans h.tape, k.output.trans h.output, Nat.le_trans h.size k.size,
   fun b hb hm => (k.imm b (Nat.lt_of_lt_of_le hb h.size) (fun hm' => hm (h.mm b hb hm'))).trans (h.imm b hb hm),
   fun b hb hm => h.mm b hb (k.mm b (Nat.lt_of_lt_of_le hb h.size) hm),
   fun b hb hx => ⟨((k.own b (Nat.lt_of_lt_of_le hb h.size) (fun hh => hx (hy b hb hh))).1).trans (h.own b hb hx).1, fun hm => (k.own b (Nat.lt_of_lt_of_le hb h.size) (fun hh => hx (hy b hb hh))).2 ((h.own b hb hx).2 hm)⟩, h.ty⟩
instance Sx.self {σ0 σ : St} {X : Xs} [h : Nx σ0 σ X] : Sx σ0 X σ := ⟨h.p⟩
/-- of what was there at the beginning, what Y says turned X says, too -/
class HitsIn (σ0 : St) (Y X : Xs) : Prop where
  h : ∀ b, b < σ0.w.heap.size → Y.hits b → X.hits b
class SzLe (σ0 σ : St) : Prop where
  h : σ0.w.heap.size ≤ σ.w.heap.size
instance SzLe.refl {σ : St} : SzLe σ σ := ⟨Nat.le_refl _⟩
instance (priority := low) SzLe.step {σ0 σ σ' : St} {X : Xs} [k : Nx σ σ' X] [h : SzLe σ0 σ] : SzLe σ0 σ' := ⟨Nat.le_trans h.h k.p.size⟩
instance (priority := low) Fresh0.sz {σ0 σ : St} {b : Nat} [h : NewAt σ b] [s : SzLe σ0 σ] : Fresh0 σ0 b := ⟨Nat.le_trans s.h h.ge⟩
instance (priority := low) FreshR.sz {σ0 σ : St} {A A' : Option Addr} [k : RowNew σ A A'] [h : FreshR σ0 A] [s : SzLe σ0 σ] : FreshR σ0 A' :=
  ⟨fun a' ha' => by
    rcases k.h a' ha' with ⟨a, ha, e⟩ | hg
    · rw [← e]; exact h.ge a ha
    · exact Nat.le_trans s.h hg⟩
/-- where a row comes from -/
class Gr (σ0 : St) (A0 A : Option Addr) : Prop where
  h : ∀ a', A = some a' → (∃ a, A0 = some a ∧ a.block = a'.block) ∨ σ0.w.heap.size ≤ a'.block
instance Gr.refl {σ0 : St} {A : Option Addr} : Gr σ0 A A := ⟨fun a h => .inl ⟨a, h, rfl⟩⟩
instance (priority := low) Gr.step {σ0 σ : St} {A0 A A' : Option Addr} [k : RowNew σ A A'] [h : Gr σ0 A0 A] [s : SzLe σ0 σ] : Gr σ0 A0 A' := ⟨fun a' ha' => by
  rcases k.h a' ha' with ⟨a, ha, e⟩ | hg
  · rw [← e]; exact h.h a ha
  · exact .inr (Nat.le_trans s.h hg)⟩
theorem Gr.of_none {σ0 : St} {A A' : Option Addr} (h : Gr σ0 none A') : Gr σ0 A A' := ⟨fun a ha => (h.h a ha).elim (fun ⟨_, h, _⟩ => by cases h) .inr⟩
theorem Gr.rn {σ0 : St} {A0 A : Option Addr} (h : Gr σ0 A0 A) : RowNew σ0 A0 A := ⟨h.h⟩
instance HitsIn.no {σ0 : St} {X : Xs} : HitsIn σ0 .no X := ⟨fun _ _ h => h.elim⟩
instance HitsIn.refl {σ0 : St} {X : Xs} : HitsIn σ0 X X := ⟨fun _ _ h => h⟩
instance (priority := low) HitsIn.gr {σ0 : St} {A A0 : Option Addr} {t : TypeId} [g : Gr σ0 A0 A] : HitsIn σ0 (.row A t) (.row A0 t) := ⟨fun b hb h => by
  obtain ⟨a, ha, e⟩ := h
  rcases g.h a ha with ⟨a0, h0, e0⟩ | hg
  · exact ⟨a0, h0, e0.trans e⟩
  · omega⟩
instance (priority := low) HitsIn.left {σ0 : St} {Y X X' : Xs} [h : HitsIn σ0 Y X] : HitsIn σ0 Y (.un X X') := ⟨fun b hb hh => .inl (h.h b hb hh)⟩
instance (priority := low) HitsIn.right {σ0 : St} {Y X X' : Xs} [h : HitsIn σ0 Y X'] : HitsIn σ0 Y (.un X X') := ⟨fun b hb hh => .inr (h.h b hb hh)⟩
instance (priority := low) HitsIn.un {σ0 : St} {Y Y' X : Xs} [h : HitsIn σ0 Y X] [g : HitsIn σ0 Y' X] : HitsIn σ0 (.un Y Y') X := ⟨fun b hb hh => hh.elim (h.h b hb) (g.h b hb)⟩
instance (priority := low) HitsIn.fresh {σ0 : St} {Y X : Xs} [f : FreshX σ0 Y] : HitsIn σ0 Y X := ⟨fun b hb hh => by have := f.h b hh; omega⟩
instance (priority := low) Sx.step {σ0 σ σ' : St} {X Y : Xs} [k : Nx σ σ' Y] [h : Sx σ0 X σ] [q : HitsIn σ0 Y X] : Sx σ0 X σ' := ⟨h.p.comp k.p q.h⟩
/-- what may be said to turn -/
class Tyd (σ : St) (X : Xs) : Prop where
  h : X.typed σ.w
instance Tyd.no {σ : St} : Tyd σ .no := ⟨trivial⟩
instance Tyd.one {σ : St} {b : Nat} {t : TypeId} {cs : Array Value} [h : Own σ b t cs] : Tyd σ (.one b t) := ⟨⟨_, _, h.h⟩⟩
instance Tyd.row {σ : St} {A : Option Addr} {n c : Nat} {t : TypeId} {α : Type} {E : Elem α} {xs : List α} [r : Row σ A n c t E xs] : Tyd σ (.row A t) := ⟨r.typed⟩
instance Tyd.un {σ : St} {X Y : Xs} [h : Tyd σ X] [g : Tyd σ Y] : Tyd σ (.un X Y) := ⟨⟨h.h, g.h⟩⟩
theorem NxP.rfl_ {σ : St} {X : Xs} (h : Tyd σ X) : NxP σ σ X := ⟨rfl, rfl, rfl, Nat.le_refl _, fun _ _ _ => rfl, fun _ _ h => h, fun _ _ _ => ⟨rfl, id⟩, h.h⟩
instance (priority := low) Sx.refl {σ : St} {X : Xs} [h : Tyd σ X] : Sx σ X σ := ⟨NxP.rfl_ h⟩
theorem Sx.nx {σ0 σ : St} {X : Xs} (h : Sx σ0 X σ) : Nx σ0 σ X := ⟨h.p⟩
/-- a loop: W the places that it writes, X what may turn in it; the rest stays -/
theorem WC.loopW {P : Program} {n : Nat} {Q : PostQ} {D : List Deferred} {f : Fr} {σ : St} {ι : Type} (W : Nat) (X : Xs) (Inv : ι → Fr → St → Prop) (μ : ι → Nat) {c : Code} (i0 : ι) [hx : Tyd σ X] (h0 : Inv i0 f σ)
    (h : ∀ i f' σ', Agree f' W f → Nx σ σ' X → Inv i f' σ' → WC P n (loopQA Inv μ W f σ X i D Q) c D f' σ') : WC P n Q (.loop c) D f σ := WC.loopX W X Inv μ i0 (NxP.rfl_ hx) h0 h
theorem loop_w {ι : Type} {Inv : ι → Fr → St → Prop} {μ : ι → Nat} {i : ι} {Q : PostQ} {D : List Deferred} {f f0 : Fr} {σ σ0 : St} {W : Nat} {X : Xs} (i' : ι) [a : AgreeG f W f0] [hx : Sx σ0 X σ] (h : Inv i' f σ) (hm : μ i' < μ i) : loopQA Inv μ W f0 σ0 X i D Q .normal D f σ := loop_x i' hx.nx h hm
/-- the ways through a part meet again: W the places that it writes, X what may turn in it -/
theorem WC.cutW {P : Program} {n : Nat} {Q : PostQ} {D : List Deferred} {f : Fr} {σ : St} {next : List Deferred → Fr → St → Prop} (W : Nat) (X : Xs) (R : Fr → St → Prop) {c : Code} (h1 : WC P n (thenQ (fun D' f' σ' => D' = D ∧ Agree f' W f ∧ Nx σ σ' X ∧ R f' σ') Q) c D f σ) (h2 : ∀ f' σ', Agree f' W f → Nx σ σ' X → R f' σ' → next D f' σ') : WC P n (thenQ next Q) c D f σ :=
  WC.mono h1 (fun e D' f' σ' hq => by
    cases e with
    | normal => obtain ⟨rfl, h⟩ := hq; exact h2 _ _ h.1 h.2.1 h.2.2
    | _ => exact hq)
theorem cut_w {D : List Deferred} {f f0 : Fr} {σ σ0 : St} {W : Nat} {X : Xs} {R : Fr → St → Prop} [a : AgreeG f W f0] [hx : Sx σ0 X σ] (h : R f σ) : D = D ∧ Agree f W f0 ∧ Nx σ0 σ X ∧ R f σ := ⟨rfl, a.h, hx.nx, h⟩

/-- a row that is written no more -/
theorem WC.freeze {P : Program} {n0 : Nat} {Q : PostQ} {co : Code} {D : List Deferred} {f : Fr} {σ : St} (A : Option Addr) {n c : Nat} {t : TypeId} {α : Type} {E : Elem α} {xs : List α} [h : Row σ A n c t E xs] (k : ∀ σ' : St, Nx σ σ' (.row A t) → SL σ' A n c E xs → WC P n0 Q co D f σ') : WC P n0 Q co D f σ := by
  obtain ⟨σ', hw, hn, hs⟩ := h.freeze
  exact WC.of (fun a h1 h2 h3 => by rw [← hw]; exact (k σ' ⟨hn⟩ hs).use a h1 h2 h3)
/-- a function value that compares -/
class CmpF (P : Program) (fv : Value) {α : outParam Type} (E : outParam (Elem α)) (r : outParam (α → α → Int)) : Prop where
  rule : ∀ (σ : St) (x y : α), E.ok σ x → E.ok σ y → ValRule P fv [E.val x, E.val y] σ (fun K _ => ∀ σ', Nx σ σ' .no → K (.int .i64 (r x y)) σ')
instance ValRule.cmp {P : Program} {fv v u : Value} {α : Type} {E : Elem α} {r : α → α → Int} {x y : α} {σ : St} [c : CmpF P fv E r] [h : EncV σ E v x] [g : EncV σ E u y] : ValRule P fv [v, u] σ (fun K _ => ∀ σ', Nx σ σ' .no → K (.int .i64 (r x y)) σ') := by
  rw [h.eq, g.eq]; exact c.rule σ x y h.ok g.ok

end Go.Proofs.Ythdhnkgnbdociaa
