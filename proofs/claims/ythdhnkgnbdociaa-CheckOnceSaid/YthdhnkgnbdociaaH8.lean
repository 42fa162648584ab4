/- The law CheckOnce, by contract. No condition. (Printed by gen_h8.py.) -/
import Derived.Test.YthdhnkgnbdociaaH5
set_option linter.all false
set_option maxHeartbeats 40000000
set_option synthInstance.maxHeartbeats 2000000
set_option synthInstance.maxSize 100000
namespace Go.Proofs.Ythdhnkgnbdociaa
open Go Go.RowKit
section
variable {P : Program} {σ : St} {f : Fr} {ty t e : TypeId} {A B : Option Addr} {n c m d bytes : Nat} {α : Type} [Inhabited α] {E : Elem α} {xs ys : List α}
theorem append_new {z : α} (r : Row σ A 0 0 e E xs) (s : Rd σ B m d E ys) (ut : U P t (.slice e)) (eo : ElemOf P e E bytes) (ze : ZeroE P e E z) (hm0 : 0 < m) (hb : (0 + m) * bytes ≤ 140737488355328) (hmx0 : 0 + m ≤ 9223372036854775807) :
    ∃ σ' A' c', (Builtin.append_ #[t, t] ty #[.slice A 0 0, .slice B m d]).run P σ.w = .ok (.slice A' (0 + m) c') σ'.w ∧ NxP σ σ' .no ∧ RowNew σ none A' ∧ Row σ' A' (0 + m) c' e E (xs ++ ys) := by
  have hmx : 0 + m ≤ maxLen := by simp only [maxLen]; omega
  obtain ⟨d0, i, hd0, hag, hi, hsz, hby⟩ := eo.ti.h
  obtain ⟨i', zv, hi', hz, hzc⟩ := ze.h
  rw [hi] at hi'; injection hi' with hi'; subst hi'
  have hlen : xs.length = 0 := r.len
  have hx : xs = [] := List.eq_nil_of_length_eq_zero hlen
  subst hx
  have hl2 : ys.length = m := s.len
  have hpos := E.pos
  have hzs : zv.cells.size = i.size := by rw [hzc, E.size, hsz]
  have cells_ys : ∀ ad, B = some ad → ∀ j v, (E.flat ys)[j]? = some v → σ.w.cell? (ad.add j) = some v := by
    intro ad hB j v hv
    rcases s.rd with h0 | ⟨b, o, ha, hc⟩
    · have hy : ys = [] := List.eq_nil_of_length_eq_zero (by omega)
      subst hy
      simp [Elem.flat] at hv
    · rw [hB] at ha; injection ha with ha; subst ha
      rw [add_at]; exact hc j v hv
  obtain ⟨ad, hB⟩ : ∃ ad, B = some ad := by
    rcases s.rd with h0 | ⟨b, o, ha, _⟩
    · omega
    · exact ⟨_, ha⟩
  have hge := grownCap_ge σ.w (0 + m) 0 e
  have hcm : grownCap σ.w (0 + m) 0 e ≤ maxLen := grownCap_le_maxLen σ.w (0 + m) 0 e hmx
  obtain ⟨σ1, hw1, hn1⟩ := st_drew σ (σ.w.drawn + 1)
  obtain ⟨σ2, hw2, hn2, hm2, hm2', ho2, hs2⟩ := st_new σ1 (.cells ((E.flat ([] : List α)).toArray ++ (E.flat ys).toArray ++ Builtin.zeroCells zv.cells (grownCap σ.w (0 + m) 0 e - (0 + m))) e) True
  have hz1 : σ1.w.heap.size = σ.w.heap.size := by rw [hw1]
  have hd : σ1.w = σ.w.drew := hw1
  have hn3 : NxP σ σ2 .no := ⟨hn2.os.trans hn1.os, hn2.tape.trans hn1.tape, hn2.output.trans hn1.output, Nat.le_trans hn1.size hn2.size, fun b hb hb' => (hn2.imm b (by omega) (fun h => hb' (hn1.mm b hb h))).trans (hn1.imm b hb hb'),
    fun b hb h => hn1.mm b hb (hn2.mm b (by omega) h), fun b hb _ => ⟨((hn2.own b (by omega) id).1).trans (hn1.own b hb id).1, fun h => (hn2.own b (by omega) id).2 ((hn1.own b hb id).2 h)⟩, trivial⟩
  have hfl : (E.flat ([] : List α)).toArray ++ (E.flat ys).toArray ++ Builtin.zeroCells zv.cells (grownCap σ.w (0 + m) 0 e - (0 + m)) = (E.flat ([] ++ ys ++ List.replicate (grownCap σ.w (0 + m) 0 e - (0 + m)) z)).toArray := by
    rw [zeroCells_flat E z _ hzc]; simp [E.flat_append, Elem.flat_nil]
  have hrow : Row σ2 (some ⟨σ.w.heap.size, 0, none⟩) (0 + m) (grownCap σ.w (0 + m) 0 e) e E ([] ++ ys) :=
    Row.mk_ (by simp [hl2]) hge hcm rfl (by rw [hz1] at ho2; rw [ho2, hfl]) (by simp only [List.length_append, List.length_replicate, List.length_nil, hl2]; omega) (by rw [List.take_append_of_le_length (by simp [hl2]), List.take_of_length_le (by simp [hl2])]) (fun x hx => by
      rcases List.mem_append.1 hx with hx | hx
      · rw [List.nil_append] at hx; exact E.nx _ _ _ _ hn3 (s.ok x hx)
      · rw [(List.mem_replicate.1 hx).2]; exact ze.ok _) (by rw [hz1] at hm2; exact hm2.2 trivial)
  subst hB
  refine ⟨σ2, _, _, ?_, hn3, ⟨fun a' ha' => by injection ha' with ha'; subst ha'; exact .inr (Nat.le_refl _)⟩, hrow⟩
  rw [hw2, hd]
  cases A with
  | none =>
    have hr := run_append_nil (P := P) σ.w t ty e i zv ut.h hi hz ad m d (E.flat ys) (by rw [E.flat_length, hl2, hsz]) (cells_ys ad rfl) (by omega) (by omega) (by rw [hby]; simp only [Nat.zero_add] at hb; omega)
    simp only [Nat.zero_add, Elem.flat_nil, List.nil_append, Array.empty_append] at hr ⊢
    exact hr
  | some a =>
    have hr := run_append_grow (P := P) σ.w t ty e i zv ut.h hi hz a 0 0 (E.flat ([] : List α)) (by rw [E.flat_length, hsz]; simp) (fun j v hj => by simp [Elem.flat] at hj) ad m d (E.flat ys) (by rw [E.flat_length, hl2, hsz]) (cells_ys ad rfl) (by omega) (by omega) (by rw [hby]; exact growslice_fits (by omega) hb)
    exact hr
instance (priority := 1100) Step.append_new {z : α} {x y : Operand} [h : Ev f x (.slice A n c)] [g : Ev f y (.slice B m d)] [r : Row σ A n c e E xs] [en : EqB (Nat.beq n 0) true] [ec : EqB (Nat.beq c 0) true] [pm : PosN m] [ut : U P t (.slice e)] [eo : ElemOf P e E bytes] [s : Rd σ B m d E ys] [ze : ZeroE P e E z] :
    Step P (.call { callee := .builtin .append, args := #[x, y], argTypes := #[t, t] }) ty f σ
      (fun K _ => ((n + m) * bytes ≤ 140737488355328 ∧ n + m ≤ 9223372036854775807) ∧ ∀ (σ' : St) (A' : Option Addr) (c' : Nat), Nx σ σ' .no → RowNew σ none A' → Row σ' A' (n + m) c' e E (xs ++ ys) → K (.slice A' (n + m) c') σ') := ⟨fun K E' hK => by
  have hn := Nat.eq_of_beq_eq_true en.eq
  have hc := Nat.eq_of_beq_eq_true ec.eq
  subst hn; subst hc
  obtain ⟨⟨hb, hmx0⟩, hK⟩ := hK
  obtain ⟨σ', A', c', hrun, hn, hrn, hrow⟩ := append_new (ty := ty) r s ut eo ze pm.pos hb hmx0
  have hr : (execOp (evo f) ⟨none, .call { callee := .builtin .append, args := #[x, y], argTypes := #[t, t] }, ty, "", #[], none⟩).run P σ.w = .ok (.value (.slice A' (0 + m) c')) σ'.w := by
    simp [execOp, resolve, h.eq, g.eq, invoke, builtin]
    simp only [Nat.zero_add] at hrun
    simp [hrun]
  unfold OpW; rw [hr]
  exact ⟨σ', rfl, hK σ' A' c' ⟨hn⟩ hrn hrow⟩⟩
end
theorem once_ins {t : Tx} (h : chkM t false = 0) (hl : t.ins.l.length = t.ins.n) {A : Option Addr} {c i : Nat} (hi : i < t.ins.n) :
    chkM ⟨t.exp, ⟨A, 0 + t.ins.n + 1, c, [] ++ t.ins.l ++ [t.ins.l[i]!]⟩, t.outs, t.anchor, t.nulls, t.notes, t.bal⟩ false = if 40 < t.ins.n + 1 then 51 else 111 := by
  obtain ⟨h1, h2, h3, h4, h5⟩ := chk_ok h
  have hmem : t.ins.l[i]! ∈ t.ins.l := by rw [getElem!_pos _ i (by omega)]; exact List.getElem_mem _
  have hm4 : ¬ 40 < maxL [t.ins.n, t.outs.n, t.nulls.n, t.notes.n] := fun k => by rw [encE_many k] at h1; cases h1
  have hm5 := hm4
  rw [maxL4] at hm5
  by_cases hg : 40 < t.ins.n + 1
  · rw [if_pos hg]
    have e : encE ⟨t.exp, ⟨A, 0 + t.ins.n + 1, c, [] ++ t.ins.l ++ [t.ins.l[i]!]⟩, t.outs, t.anchor, t.nulls, t.notes, t.bal⟩ = 51 := encE_many (by rw [maxL4]; show 40 < max (max (max (0 + t.ins.n + 1) t.outs.n) t.nulls.n) t.notes.n; omega)
    unfold chkM; rw [e]; rfl
  · rw [if_neg hg]
    have e1 : encE ⟨t.exp, ⟨A, 0 + t.ins.n + 1, c, [] ++ t.ins.l ++ [t.ins.l[i]!]⟩, t.outs, t.anchor, t.nulls, t.notes, t.bal⟩ = 0 := encE_ok (by rw [maxL4]; show ¬ 40 < max (max (max (0 + t.ins.n + 1) t.outs.n) t.nulls.n) t.notes.n; omega) (fun k => by
      have : encE t = 1 := encE_arg hm4 k
      rw [this] at h1; cases h1)
    have e2 : emptyB ⟨t.exp, ⟨A, 0 + t.ins.n + 1, c, [] ++ t.ins.l ++ [t.ins.l[i]!]⟩, t.outs, t.anchor, t.nulls, t.notes, t.bal⟩ = false := by
      unfold emptyB at h2 ⊢
      simp at h2 ⊢
      omega
    have e3 : coinB ⟨t.exp, ⟨A, 0 + t.ins.n + 1, c, [] ++ t.ins.l ++ [t.ins.l[i]!]⟩, t.outs, t.anchor, t.nulls, t.notes, t.bal⟩ false = false := by
      have h3' : zeroM t = false := h3
      show zeroM _ = false
      unfold zeroM at h3' ⊢
      rw [List.any_eq_false] at h3' ⊢
      intro x hx
      simp only [List.nil_append, List.mem_append, List.mem_singleton] at hx
      rcases hx with hx | rfl
      · exact h3' x hx
      · exact h3' _ hmem
    have e4 : repB ⟨t.exp, ⟨A, 0 + t.ins.n + 1, c, [] ++ t.ins.l ++ [t.ins.l[i]!]⟩, t.outs, t.anchor, t.nulls, t.notes, t.bal⟩ = true := by
      unfold repB
      rw [Bool.or_eq_true]
      refine .inl ?_
      simp only [ptD, Bool.not_eq_true', decide_eq_false_iff_not, List.nil_append]
      rw [List.nodup_append]
      rintro ⟨_, _, k⟩
      exact k _ hmem _ (List.mem_singleton.2 rfl) rfl
    simp only [chkM, e1, if_true, errsM, e2, e3, e4]
    simp
theorem once_nulls {t : Tx} (h : chkM t false = 0) (hl : t.nulls.l.length = t.nulls.n) {A : Option Addr} {c i : Nat} (hi : i < t.nulls.n) :
    chkM ⟨t.exp, t.ins, t.outs, t.anchor, ⟨A, 0 + t.nulls.n + 1, c, [] ++ t.nulls.l ++ [t.nulls.l[i]!]⟩, t.notes, t.bal⟩ false = if 40 < t.nulls.n + 1 then 51 else 111 := by
  obtain ⟨h1, h2, h3, h4, h5⟩ := chk_ok h
  have hmem : t.nulls.l[i]! ∈ t.nulls.l := by rw [getElem!_pos _ i (by omega)]; exact List.getElem_mem _
  have hm4 : ¬ 40 < maxL [t.ins.n, t.outs.n, t.nulls.n, t.notes.n] := fun k => by rw [encE_many k] at h1; cases h1
  have hm5 := hm4
  rw [maxL4] at hm5
  by_cases hg : 40 < t.nulls.n + 1
  · rw [if_pos hg]
    have e : encE ⟨t.exp, t.ins, t.outs, t.anchor, ⟨A, 0 + t.nulls.n + 1, c, [] ++ t.nulls.l ++ [t.nulls.l[i]!]⟩, t.notes, t.bal⟩ = 51 := encE_many (by rw [maxL4]; show 40 < max (max (max t.ins.n t.outs.n) (0 + t.nulls.n + 1)) t.notes.n; omega)
    unfold chkM; rw [e]; rfl
  · rw [if_neg hg]
    have e1 : encE ⟨t.exp, t.ins, t.outs, t.anchor, ⟨A, 0 + t.nulls.n + 1, c, [] ++ t.nulls.l ++ [t.nulls.l[i]!]⟩, t.notes, t.bal⟩ = 0 := encE_ok (by rw [maxL4]; show ¬ 40 < max (max (max t.ins.n t.outs.n) (0 + t.nulls.n + 1)) t.notes.n; omega) (fun k => by
      have := k.1
      simp at this)
    have e2 : emptyB ⟨t.exp, t.ins, t.outs, t.anchor, ⟨A, 0 + t.nulls.n + 1, c, [] ++ t.nulls.l ++ [t.nulls.l[i]!]⟩, t.notes, t.bal⟩ = false := by
      unfold emptyB at h2 ⊢
      simp at h2 ⊢
      omega
    have e3 : coinB ⟨t.exp, t.ins, t.outs, t.anchor, ⟨A, 0 + t.nulls.n + 1, c, [] ++ t.nulls.l ++ [t.nulls.l[i]!]⟩, t.notes, t.bal⟩ false = false := h3
    have e4 : repB ⟨t.exp, t.ins, t.outs, t.anchor, ⟨A, 0 + t.nulls.n + 1, c, [] ++ t.nulls.l ++ [t.nulls.l[i]!]⟩, t.notes, t.bal⟩ = true := by
      unfold repB
      rw [Bool.or_eq_true]
      refine .inr ?_
      simp only [distK, Bool.not_eq_true', decide_eq_false_iff_not, List.nil_append]
      rw [List.nodup_append]
      rintro ⟨_, _, k⟩
      exact k _ hmem _ (List.mem_singleton.2 rfl) rfl
    simp only [chkM, e1, if_true, errsM, e2, e3, e4]
    simp
theorem once_base {t : Tx} (h : chkM t false = 0) : chkM t true = 112 := by
  obtain ⟨h1, h2, h3, h4, h5⟩ := chk_ok h
  have hc : cbM t = false := by
    cases hb : cbM t with
    | false => rfl
    | true => have := cbM_zero hb; have h3' : zeroM t = false := h3; rw [h3'] at this; cases this
  have e3 : coinB t true = true := by unfold coinB; rw [hc]; rfl
  simp only [chkM, h1, if_true, errsM, h2, e3]
  simp
section
variable {σ : St} {t : Tx} {k : UInt8}
instance rule_CheckOnce [ok : OkE σ txE t] : CallRule Try.prog 3 [.agg (cats [#[.int .u32 (t.exp.toNat : Int)], #[.slice t.ins.A t.ins.n t.ins.c], #[.slice t.outs.A t.outs.n t.outs.c], kc t.anchor, #[.slice t.nulls.A t.nulls.n t.nulls.c], #[.slice t.notes.A t.notes.n t.notes.c], #[.int .i64 t.bal.toInt]]), .int .u8 (k.toNat : Int)] σ (fun K _ => ∀ σ', Nx σ σ' .no → K (.bool true) σ') := ⟨fun K E hK => by
  cases h1 : heavyT t with
  | true =>
    haveI : BV (heavyT t) true := ⟨h1⟩
    refine calls_enter Try.func3 rfl _ Try.ntmps3 rfl ?_
    (repeat (first | refine go ?_ | refine goR ?_ | refine goS (fun yc hyc => ?_) | refine goL (fun _ _ => inferInstance) ?_ | with_reducible intro _ | refine goO (by first | omega | (simp only [List.length_cons, List.length_nil]; omega)) ?_ | fail))
    exact backN (σ0 := σ) Try.results3 (fun σ' _ _ => hK σ' inferInstance)
  | false =>
    haveI : BV (heavyT t) false := ⟨h1⟩
    have f1 := heavyT_f h1
    have hl1 := (inferInstance : SL σ t.ins.A t.ins.n t.ins.c ptE t.ins.l).len
    have hl3 := (inferInstance : SL σ t.nulls.A t.nulls.n t.nulls.c keyE t.nulls.l).len
    by_cases hc : chkM t false = 0
    · haveI : Is (chkM t false) 0 := ⟨hc⟩
      haveI : Is (chkM t true) 112 := ⟨once_base hc⟩
      haveI : Is (chkM ⟨t.exp, ⟨t.ins.A, t.ins.n, t.ins.c, t.ins.l⟩, ⟨t.outs.A, t.outs.n, t.outs.c, t.outs.l⟩, t.anchor, ⟨t.nulls.A, t.nulls.n, t.nulls.c, t.nulls.l⟩, ⟨t.notes.A, t.notes.n, t.notes.c, t.notes.l⟩, t.bal⟩ false) 0 := ⟨hc⟩
      have hk := k.toNat_lt
      haveI : Fits .i64 (k.toNat : Int) := Fits.i64 (by omega) (by omega)
      by_cases zins : t.ins.n = 0
      · skip
        haveI : BV (decide ((t.ins.n : Int) > 0)) false := ⟨decide_eq_false (by omega)⟩
        haveI : BV (decide ((t.ins.n : Int) = 0)) true := ⟨decide_eq_true (by omega)⟩
        by_cases znulls : t.nulls.n = 0
        · skip
          haveI : BV (decide ((t.nulls.n : Int) > 0)) false := ⟨decide_eq_false (by omega)⟩
          haveI : BV (decide ((t.nulls.n : Int) = 0)) true := ⟨decide_eq_true (by omega)⟩
          refine calls_enter Try.func3 rfl _ Try.ntmps3 rfl ?_
          (repeat (first | refine go ?_ | refine goR ?_ | refine goS (fun yc hyc => ?_) | refine goL (fun _ _ => inferInstance) ?_ | with_reducible intro _ | refine goO (by first | omega | (simp only [List.length_cons, List.length_nil]; omega)) ?_ | fail))
          all_goals exact backN (σ0 := σ) Try.results3 (fun σ' _ _ => hK σ' inferInstance)
        · skip
          by_cases gnulls : 40 < t.nulls.n + 1
          · skip
            haveI : BV (decide ((t.nulls.n : Int) > 0)) true := ⟨decide_eq_true (by omega)⟩
            haveI : BV (decide ((t.nulls.n : Int) = 0)) false := ⟨decide_eq_false (by omega)⟩
            haveI : PosN t.nulls.n := ⟨by omega⟩
            have hmnulls : k.toNat % t.nulls.n < t.nulls.n := Nat.mod_lt _ (by omega)
            haveI : IdxLt (k.toNat % t.nulls.n) t.nulls.n := ⟨hmnulls⟩
            haveI : BV (decide (((0 + t.nulls.n + 1 : Nat) : Int) > 40)) true := ⟨decide_eq_true (by omega)⟩
            haveI : ∀ {A1 : Option Addr} {c1 : Nat}, Is (chkM ⟨t.exp, ⟨t.ins.A, t.ins.n, t.ins.c, t.ins.l⟩, ⟨t.outs.A, t.outs.n, t.outs.c, t.outs.l⟩, t.anchor, ⟨A1, 0 + t.nulls.n + 1, c1, [] ++ t.nulls.l ++ [t.nulls.l[k.toNat % t.nulls.n]!]⟩, ⟨t.notes.A, t.notes.n, t.notes.c, t.notes.l⟩, t.bal⟩ false) 51 := ⟨(once_nulls hc hl3 hmnulls).trans (if_pos (by omega))⟩
            refine calls_enter Try.func3 rfl _ Try.ntmps3 rfl ?_
            (repeat (first | refine go ?_ | refine goR ?_ | refine goS (fun yc hyc => ?_) | refine goL (fun _ _ => inferInstance) ?_ | with_reducible intro _ | refine goO (by first | omega | (simp only [List.length_cons, List.length_nil]; omega)) ?_ | fail))
            all_goals
              refine WC.draw [15, 17] (.l 1 (.l 2 (.l 4 (.l 5 (.p 6 (.l 7 (.p 8 (.l 9 (.l 10 (.p 11 (.l 12 (.l 13 (.f 0 (.f 3 (.h 14 (.h 15 (.l 16 (.h 17 .nil)))) 14 (.h 3 (.h 15 (.l 16 (.h 17 .nil))))) 14 (.h 0 (.h 3 (.h 15 (.l 16 (.h 17 .nil)))))))))))))))))) mixed (by decide +kernel) ?_
              (repeat' (first | refine go ?_ | refine goS (fun yc hyc => ?_) | refine goL (fun _ _ => inferInstance) ?_ | refine goF ?_ ?_ | with_reducible intro _ | refine goO (by first | omega | (simp only [List.length_cons, List.length_nil]; omega)) ?_ | fail))
            all_goals
              rename Option Addr => A2
              refine WC.freeze A2 (fun s8 hn8 hs8 => ?_)
            all_goals (repeat (first | refine go ?_ | refine goR ?_ | refine goS (fun yc hyc => ?_) | refine goL (fun _ _ => inferInstance) ?_ | with_reducible intro _ | refine goO (by first | omega | (simp only [List.length_cons, List.length_nil]; omega)) ?_ | fail))
            all_goals exact backN (σ0 := σ) Try.results3 (fun σ' _ _ => hK σ' inferInstance)
          · skip
            haveI : BV (decide ((t.nulls.n : Int) > 0)) true := ⟨decide_eq_true (by omega)⟩
            haveI : BV (decide ((t.nulls.n : Int) = 0)) false := ⟨decide_eq_false (by omega)⟩
            haveI : PosN t.nulls.n := ⟨by omega⟩
            have hmnulls : k.toNat % t.nulls.n < t.nulls.n := Nat.mod_lt _ (by omega)
            haveI : IdxLt (k.toNat % t.nulls.n) t.nulls.n := ⟨hmnulls⟩
            haveI : BV (decide (((0 + t.nulls.n + 1 : Nat) : Int) > 40)) false := ⟨decide_eq_false (by omega)⟩
            haveI : ∀ {A1 : Option Addr} {c1 : Nat}, Is (chkM ⟨t.exp, ⟨t.ins.A, t.ins.n, t.ins.c, t.ins.l⟩, ⟨t.outs.A, t.outs.n, t.outs.c, t.outs.l⟩, t.anchor, ⟨A1, 0 + t.nulls.n + 1, c1, [] ++ t.nulls.l ++ [t.nulls.l[k.toNat % t.nulls.n]!]⟩, ⟨t.notes.A, t.notes.n, t.notes.c, t.notes.l⟩, t.bal⟩ false) 111 := ⟨(once_nulls hc hl3 hmnulls).trans (if_neg (by omega))⟩
            refine calls_enter Try.func3 rfl _ Try.ntmps3 rfl ?_
            (repeat (first | refine go ?_ | refine goR ?_ | refine goS (fun yc hyc => ?_) | refine goL (fun _ _ => inferInstance) ?_ | with_reducible intro _ | refine goO (by first | omega | (simp only [List.length_cons, List.length_nil]; omega)) ?_ | fail))
            all_goals
              refine WC.draw [15, 17] (.l 1 (.l 2 (.l 4 (.l 5 (.p 6 (.l 7 (.p 8 (.l 9 (.l 10 (.p 11 (.l 12 (.l 13 (.f 0 (.f 3 (.h 14 (.h 15 (.l 16 (.h 17 .nil)))) 14 (.h 3 (.h 15 (.l 16 (.h 17 .nil))))) 14 (.h 0 (.h 3 (.h 15 (.l 16 (.h 17 .nil)))))))))))))))))) mixed (by decide +kernel) ?_
              (repeat' (first | refine go ?_ | refine goS (fun yc hyc => ?_) | refine goL (fun _ _ => inferInstance) ?_ | refine goF ?_ ?_ | with_reducible intro _ | refine goO (by first | omega | (simp only [List.length_cons, List.length_nil]; omega)) ?_ | fail))
            all_goals
              rename Option Addr => A2
              refine WC.freeze A2 (fun s8 hn8 hs8 => ?_)
            all_goals (repeat (first | refine go ?_ | refine goR ?_ | refine goS (fun yc hyc => ?_) | refine goL (fun _ _ => inferInstance) ?_ | with_reducible intro _ | refine goO (by first | omega | (simp only [List.length_cons, List.length_nil]; omega)) ?_ | fail))
            all_goals exact backN (σ0 := σ) Try.results3 (fun σ' _ _ => hK σ' inferInstance)
      · skip
        by_cases gins : 40 < t.ins.n + 1
        · skip
          haveI : BV (decide ((t.ins.n : Int) > 0)) true := ⟨decide_eq_true (by omega)⟩
          haveI : BV (decide ((t.ins.n : Int) = 0)) false := ⟨decide_eq_false (by omega)⟩
          haveI : PosN t.ins.n := ⟨by omega⟩
          have hmins : k.toNat % t.ins.n < t.ins.n := Nat.mod_lt _ (by omega)
          haveI : IdxLt (k.toNat % t.ins.n) t.ins.n := ⟨hmins⟩
          haveI : BV (decide (((0 + t.ins.n + 1 : Nat) : Int) > 40)) true := ⟨decide_eq_true (by omega)⟩
          haveI : ∀ {A1 : Option Addr} {c1 : Nat}, Is (chkM ⟨t.exp, ⟨A1, 0 + t.ins.n + 1, c1, [] ++ t.ins.l ++ [t.ins.l[k.toNat % t.ins.n]!]⟩, ⟨t.outs.A, t.outs.n, t.outs.c, t.outs.l⟩, t.anchor, ⟨t.nulls.A, t.nulls.n, t.nulls.c, t.nulls.l⟩, ⟨t.notes.A, t.notes.n, t.notes.c, t.notes.l⟩, t.bal⟩ false) 51 := ⟨(once_ins hc hl1 hmins).trans (if_pos (by omega))⟩
          by_cases znulls : t.nulls.n = 0
          · skip
            haveI : BV (decide ((t.nulls.n : Int) > 0)) false := ⟨decide_eq_false (by omega)⟩
            haveI : BV (decide ((t.nulls.n : Int) = 0)) true := ⟨decide_eq_true (by omega)⟩
            refine calls_enter Try.func3 rfl _ Try.ntmps3 rfl ?_
            (repeat (first | refine go ?_ | refine goR ?_ | refine goS (fun yc hyc => ?_) | refine goL (fun _ _ => inferInstance) ?_ | with_reducible intro _ | refine goO (by first | omega | (simp only [List.length_cons, List.length_nil]; omega)) ?_ | fail))
            refine WC.draw [15, 17] (.l 1 (.l 2 (.l 4 (.l 5 (.p 6 (.l 7 (.p 8 (.l 9 (.l 10 (.p 11 (.l 12 (.l 13 (.f 0 (.f 3 (.h 14 (.h 15 (.l 16 (.h 17 .nil)))) 14 (.h 3 (.h 15 (.l 16 (.h 17 .nil))))) 14 (.h 0 (.h 3 (.h 15 (.l 16 (.h 17 .nil)))))))))))))))))) mixed (by decide +kernel) ?_
            (repeat' (first | refine go ?_ | refine goS (fun yc hyc => ?_) | refine goL (fun _ _ => inferInstance) ?_ | refine goF ?_ ?_ | with_reducible intro _ | refine goO (by first | omega | (simp only [List.length_cons, List.length_nil]; omega)) ?_ | fail))
            all_goals
              rename Option Addr => A1
              refine WC.freeze A1 (fun s9 hn9 hs9 => ?_)
            all_goals (repeat (first | refine go ?_ | refine goR ?_ | refine goS (fun yc hyc => ?_) | refine goL (fun _ _ => inferInstance) ?_ | with_reducible intro _ | refine goO (by first | omega | (simp only [List.length_cons, List.length_nil]; omega)) ?_ | fail))
            all_goals exact backN (σ0 := σ) Try.results3 (fun σ' _ _ => hK σ' inferInstance)
          · skip
            by_cases gnulls : 40 < t.nulls.n + 1
            · skip
              haveI : BV (decide ((t.nulls.n : Int) > 0)) true := ⟨decide_eq_true (by omega)⟩
              haveI : BV (decide ((t.nulls.n : Int) = 0)) false := ⟨decide_eq_false (by omega)⟩
              haveI : PosN t.nulls.n := ⟨by omega⟩
              have hmnulls : k.toNat % t.nulls.n < t.nulls.n := Nat.mod_lt _ (by omega)
              haveI : IdxLt (k.toNat % t.nulls.n) t.nulls.n := ⟨hmnulls⟩
              haveI : BV (decide (((0 + t.nulls.n + 1 : Nat) : Int) > 40)) true := ⟨decide_eq_true (by omega)⟩
              haveI : ∀ {A1 : Option Addr} {c1 : Nat}, Is (chkM ⟨t.exp, ⟨t.ins.A, t.ins.n, t.ins.c, t.ins.l⟩, ⟨t.outs.A, t.outs.n, t.outs.c, t.outs.l⟩, t.anchor, ⟨A1, 0 + t.nulls.n + 1, c1, [] ++ t.nulls.l ++ [t.nulls.l[k.toNat % t.nulls.n]!]⟩, ⟨t.notes.A, t.notes.n, t.notes.c, t.notes.l⟩, t.bal⟩ false) 51 := ⟨(once_nulls hc hl3 hmnulls).trans (if_pos (by omega))⟩
              refine calls_enter Try.func3 rfl _ Try.ntmps3 rfl ?_
              (repeat (first | refine go ?_ | refine goR ?_ | refine goS (fun yc hyc => ?_) | refine goL (fun _ _ => inferInstance) ?_ | with_reducible intro _ | refine goO (by first | omega | (simp only [List.length_cons, List.length_nil]; omega)) ?_ | fail))
              refine WC.draw [15, 17] (.l 1 (.l 2 (.l 4 (.l 5 (.p 6 (.l 7 (.p 8 (.l 9 (.l 10 (.p 11 (.l 12 (.l 13 (.f 0 (.f 3 (.h 14 (.h 15 (.l 16 (.h 17 .nil)))) 14 (.h 3 (.h 15 (.l 16 (.h 17 .nil))))) 14 (.h 0 (.h 3 (.h 15 (.l 16 (.h 17 .nil)))))))))))))))))) mixed (by decide +kernel) ?_
              (repeat' (first | refine go ?_ | refine goS (fun yc hyc => ?_) | refine goL (fun _ _ => inferInstance) ?_ | refine goF ?_ ?_ | with_reducible intro _ | refine goO (by first | omega | (simp only [List.length_cons, List.length_nil]; omega)) ?_ | fail))
              all_goals
                rename Option Addr => A1
                refine WC.freeze A1 (fun s9 hn9 hs9 => ?_)
              all_goals (repeat (first | refine go ?_ | refine goR ?_ | refine goS (fun yc hyc => ?_) | refine goL (fun _ _ => inferInstance) ?_ | with_reducible intro _ | refine goO (by first | omega | (simp only [List.length_cons, List.length_nil]; omega)) ?_ | fail))
              all_goals
                refine WC.draw [15, 17] (.l 1 (.l 2 (.l 4 (.l 5 (.p 6 (.l 7 (.p 8 (.l 9 (.l 10 (.p 11 (.l 12 (.l 13 (.f 0 (.f 3 (.h 14 (.h 15 (.l 16 (.h 17 .nil)))) 14 (.h 3 (.h 15 (.l 16 (.h 17 .nil))))) 14 (.h 0 (.h 3 (.h 15 (.l 16 (.h 17 .nil)))))))))))))))))) mixed (by decide +kernel) ?_
                (repeat' (first | refine go ?_ | refine goS (fun yc hyc => ?_) | refine goL (fun _ _ => inferInstance) ?_ | refine goF ?_ ?_ | with_reducible intro _ | refine goO (by first | omega | (simp only [List.length_cons, List.length_nil]; omega)) ?_ | fail))
              all_goals
                rename Option Addr => A2
                refine WC.freeze A2 (fun s8 hn8 hs8 => ?_)
              all_goals (repeat (first | refine go ?_ | refine goR ?_ | refine goS (fun yc hyc => ?_) | refine goL (fun _ _ => inferInstance) ?_ | with_reducible intro _ | refine goO (by first | omega | (simp only [List.length_cons, List.length_nil]; omega)) ?_ | fail))
              all_goals exact backN (σ0 := σ) Try.results3 (fun σ' _ _ => hK σ' inferInstance)
            · skip
              haveI : BV (decide ((t.nulls.n : Int) > 0)) true := ⟨decide_eq_true (by omega)⟩
              haveI : BV (decide ((t.nulls.n : Int) = 0)) false := ⟨decide_eq_false (by omega)⟩
              haveI : PosN t.nulls.n := ⟨by omega⟩
              have hmnulls : k.toNat % t.nulls.n < t.nulls.n := Nat.mod_lt _ (by omega)
              haveI : IdxLt (k.toNat % t.nulls.n) t.nulls.n := ⟨hmnulls⟩
              haveI : BV (decide (((0 + t.nulls.n + 1 : Nat) : Int) > 40)) false := ⟨decide_eq_false (by omega)⟩
              haveI : ∀ {A1 : Option Addr} {c1 : Nat}, Is (chkM ⟨t.exp, ⟨t.ins.A, t.ins.n, t.ins.c, t.ins.l⟩, ⟨t.outs.A, t.outs.n, t.outs.c, t.outs.l⟩, t.anchor, ⟨A1, 0 + t.nulls.n + 1, c1, [] ++ t.nulls.l ++ [t.nulls.l[k.toNat % t.nulls.n]!]⟩, ⟨t.notes.A, t.notes.n, t.notes.c, t.notes.l⟩, t.bal⟩ false) 111 := ⟨(once_nulls hc hl3 hmnulls).trans (if_neg (by omega))⟩
              refine calls_enter Try.func3 rfl _ Try.ntmps3 rfl ?_
              (repeat (first | refine go ?_ | refine goR ?_ | refine goS (fun yc hyc => ?_) | refine goL (fun _ _ => inferInstance) ?_ | with_reducible intro _ | refine goO (by first | omega | (simp only [List.length_cons, List.length_nil]; omega)) ?_ | fail))
              refine WC.draw [15, 17] (.l 1 (.l 2 (.l 4 (.l 5 (.p 6 (.l 7 (.p 8 (.l 9 (.l 10 (.p 11 (.l 12 (.l 13 (.f 0 (.f 3 (.h 14 (.h 15 (.l 16 (.h 17 .nil)))) 14 (.h 3 (.h 15 (.l 16 (.h 17 .nil))))) 14 (.h 0 (.h 3 (.h 15 (.l 16 (.h 17 .nil)))))))))))))))))) mixed (by decide +kernel) ?_
              (repeat' (first | refine go ?_ | refine goS (fun yc hyc => ?_) | refine goL (fun _ _ => inferInstance) ?_ | refine goF ?_ ?_ | with_reducible intro _ | refine goO (by first | omega | (simp only [List.length_cons, List.length_nil]; omega)) ?_ | fail))
              all_goals
                rename Option Addr => A1
                refine WC.freeze A1 (fun s9 hn9 hs9 => ?_)
              all_goals (repeat (first | refine go ?_ | refine goR ?_ | refine goS (fun yc hyc => ?_) | refine goL (fun _ _ => inferInstance) ?_ | with_reducible intro _ | refine goO (by first | omega | (simp only [List.length_cons, List.length_nil]; omega)) ?_ | fail))
              all_goals
                refine WC.draw [15, 17] (.l 1 (.l 2 (.l 4 (.l 5 (.p 6 (.l 7 (.p 8 (.l 9 (.l 10 (.p 11 (.l 12 (.l 13 (.f 0 (.f 3 (.h 14 (.h 15 (.l 16 (.h 17 .nil)))) 14 (.h 3 (.h 15 (.l 16 (.h 17 .nil))))) 14 (.h 0 (.h 3 (.h 15 (.l 16 (.h 17 .nil)))))))))))))))))) mixed (by decide +kernel) ?_
                (repeat' (first | refine go ?_ | refine goS (fun yc hyc => ?_) | refine goL (fun _ _ => inferInstance) ?_ | refine goF ?_ ?_ | with_reducible intro _ | refine goO (by first | omega | (simp only [List.length_cons, List.length_nil]; omega)) ?_ | fail))
              all_goals
                rename Option Addr => A2
                refine WC.freeze A2 (fun s8 hn8 hs8 => ?_)
              all_goals (repeat (first | refine go ?_ | refine goR ?_ | refine goS (fun yc hyc => ?_) | refine goL (fun _ _ => inferInstance) ?_ | with_reducible intro _ | refine goO (by first | omega | (simp only [List.length_cons, List.length_nil]; omega)) ?_ | fail))
              all_goals exact backN (σ0 := σ) Try.results3 (fun σ' _ _ => hK σ' inferInstance)
        · skip
          haveI : BV (decide ((t.ins.n : Int) > 0)) true := ⟨decide_eq_true (by omega)⟩
          haveI : BV (decide ((t.ins.n : Int) = 0)) false := ⟨decide_eq_false (by omega)⟩
          haveI : PosN t.ins.n := ⟨by omega⟩
          have hmins : k.toNat % t.ins.n < t.ins.n := Nat.mod_lt _ (by omega)
          haveI : IdxLt (k.toNat % t.ins.n) t.ins.n := ⟨hmins⟩
          haveI : BV (decide (((0 + t.ins.n + 1 : Nat) : Int) > 40)) false := ⟨decide_eq_false (by omega)⟩
          haveI : ∀ {A1 : Option Addr} {c1 : Nat}, Is (chkM ⟨t.exp, ⟨A1, 0 + t.ins.n + 1, c1, [] ++ t.ins.l ++ [t.ins.l[k.toNat % t.ins.n]!]⟩, ⟨t.outs.A, t.outs.n, t.outs.c, t.outs.l⟩, t.anchor, ⟨t.nulls.A, t.nulls.n, t.nulls.c, t.nulls.l⟩, ⟨t.notes.A, t.notes.n, t.notes.c, t.notes.l⟩, t.bal⟩ false) 111 := ⟨(once_ins hc hl1 hmins).trans (if_neg (by omega))⟩
          by_cases znulls : t.nulls.n = 0
          · skip
            haveI : BV (decide ((t.nulls.n : Int) > 0)) false := ⟨decide_eq_false (by omega)⟩
            haveI : BV (decide ((t.nulls.n : Int) = 0)) true := ⟨decide_eq_true (by omega)⟩
            refine calls_enter Try.func3 rfl _ Try.ntmps3 rfl ?_
            (repeat (first | refine go ?_ | refine goR ?_ | refine goS (fun yc hyc => ?_) | refine goL (fun _ _ => inferInstance) ?_ | with_reducible intro _ | refine goO (by first | omega | (simp only [List.length_cons, List.length_nil]; omega)) ?_ | fail))
            refine WC.draw [15, 17] (.l 1 (.l 2 (.l 4 (.l 5 (.p 6 (.l 7 (.p 8 (.l 9 (.l 10 (.p 11 (.l 12 (.l 13 (.f 0 (.f 3 (.h 14 (.h 15 (.l 16 (.h 17 .nil)))) 14 (.h 3 (.h 15 (.l 16 (.h 17 .nil))))) 14 (.h 0 (.h 3 (.h 15 (.l 16 (.h 17 .nil)))))))))))))))))) mixed (by decide +kernel) ?_
            (repeat' (first | refine go ?_ | refine goS (fun yc hyc => ?_) | refine goL (fun _ _ => inferInstance) ?_ | refine goF ?_ ?_ | with_reducible intro _ | refine goO (by first | omega | (simp only [List.length_cons, List.length_nil]; omega)) ?_ | fail))
            all_goals
              rename Option Addr => A1
              refine WC.freeze A1 (fun s9 hn9 hs9 => ?_)
            all_goals (repeat (first | refine go ?_ | refine goR ?_ | refine goS (fun yc hyc => ?_) | refine goL (fun _ _ => inferInstance) ?_ | with_reducible intro _ | refine goO (by first | omega | (simp only [List.length_cons, List.length_nil]; omega)) ?_ | fail))
            all_goals exact backN (σ0 := σ) Try.results3 (fun σ' _ _ => hK σ' inferInstance)
          · skip
            by_cases gnulls : 40 < t.nulls.n + 1
            · skip
              haveI : BV (decide ((t.nulls.n : Int) > 0)) true := ⟨decide_eq_true (by omega)⟩
              haveI : BV (decide ((t.nulls.n : Int) = 0)) false := ⟨decide_eq_false (by omega)⟩
              haveI : PosN t.nulls.n := ⟨by omega⟩
              have hmnulls : k.toNat % t.nulls.n < t.nulls.n := Nat.mod_lt _ (by omega)
              haveI : IdxLt (k.toNat % t.nulls.n) t.nulls.n := ⟨hmnulls⟩
              haveI : BV (decide (((0 + t.nulls.n + 1 : Nat) : Int) > 40)) true := ⟨decide_eq_true (by omega)⟩
              haveI : ∀ {A1 : Option Addr} {c1 : Nat}, Is (chkM ⟨t.exp, ⟨t.ins.A, t.ins.n, t.ins.c, t.ins.l⟩, ⟨t.outs.A, t.outs.n, t.outs.c, t.outs.l⟩, t.anchor, ⟨A1, 0 + t.nulls.n + 1, c1, [] ++ t.nulls.l ++ [t.nulls.l[k.toNat % t.nulls.n]!]⟩, ⟨t.notes.A, t.notes.n, t.notes.c, t.notes.l⟩, t.bal⟩ false) 51 := ⟨(once_nulls hc hl3 hmnulls).trans (if_pos (by omega))⟩
              refine calls_enter Try.func3 rfl _ Try.ntmps3 rfl ?_
              (repeat (first | refine go ?_ | refine goR ?_ | refine goS (fun yc hyc => ?_) | refine goL (fun _ _ => inferInstance) ?_ | with_reducible intro _ | refine goO (by first | omega | (simp only [List.length_cons, List.length_nil]; omega)) ?_ | fail))
              refine WC.draw [15, 17] (.l 1 (.l 2 (.l 4 (.l 5 (.p 6 (.l 7 (.p 8 (.l 9 (.l 10 (.p 11 (.l 12 (.l 13 (.f 0 (.f 3 (.h 14 (.h 15 (.l 16 (.h 17 .nil)))) 14 (.h 3 (.h 15 (.l 16 (.h 17 .nil))))) 14 (.h 0 (.h 3 (.h 15 (.l 16 (.h 17 .nil)))))))))))))))))) mixed (by decide +kernel) ?_
              (repeat' (first | refine go ?_ | refine goS (fun yc hyc => ?_) | refine goL (fun _ _ => inferInstance) ?_ | refine goF ?_ ?_ | with_reducible intro _ | refine goO (by first | omega | (simp only [List.length_cons, List.length_nil]; omega)) ?_ | fail))
              all_goals
                rename Option Addr => A1
                refine WC.freeze A1 (fun s9 hn9 hs9 => ?_)
              all_goals (repeat (first | refine go ?_ | refine goR ?_ | refine goS (fun yc hyc => ?_) | refine goL (fun _ _ => inferInstance) ?_ | with_reducible intro _ | refine goO (by first | omega | (simp only [List.length_cons, List.length_nil]; omega)) ?_ | fail))
              all_goals
                refine WC.draw [15, 17] (.l 1 (.l 2 (.l 4 (.l 5 (.p 6 (.l 7 (.p 8 (.l 9 (.l 10 (.p 11 (.l 12 (.l 13 (.f 0 (.f 3 (.h 14 (.h 15 (.l 16 (.h 17 .nil)))) 14 (.h 3 (.h 15 (.l 16 (.h 17 .nil))))) 14 (.h 0 (.h 3 (.h 15 (.l 16 (.h 17 .nil)))))))))))))))))) mixed (by decide +kernel) ?_
                (repeat' (first | refine go ?_ | refine goS (fun yc hyc => ?_) | refine goL (fun _ _ => inferInstance) ?_ | refine goF ?_ ?_ | with_reducible intro _ | refine goO (by first | omega | (simp only [List.length_cons, List.length_nil]; omega)) ?_ | fail))
              all_goals
                rename Option Addr => A2
                refine WC.freeze A2 (fun s8 hn8 hs8 => ?_)
              all_goals (repeat (first | refine go ?_ | refine goR ?_ | refine goS (fun yc hyc => ?_) | refine goL (fun _ _ => inferInstance) ?_ | with_reducible intro _ | refine goO (by first | omega | (simp only [List.length_cons, List.length_nil]; omega)) ?_ | fail))
              all_goals exact backN (σ0 := σ) Try.results3 (fun σ' _ _ => hK σ' inferInstance)
            · skip
              haveI : BV (decide ((t.nulls.n : Int) > 0)) true := ⟨decide_eq_true (by omega)⟩
              haveI : BV (decide ((t.nulls.n : Int) = 0)) false := ⟨decide_eq_false (by omega)⟩
              haveI : PosN t.nulls.n := ⟨by omega⟩
              have hmnulls : k.toNat % t.nulls.n < t.nulls.n := Nat.mod_lt _ (by omega)
              haveI : IdxLt (k.toNat % t.nulls.n) t.nulls.n := ⟨hmnulls⟩
              haveI : BV (decide (((0 + t.nulls.n + 1 : Nat) : Int) > 40)) false := ⟨decide_eq_false (by omega)⟩
              haveI : ∀ {A1 : Option Addr} {c1 : Nat}, Is (chkM ⟨t.exp, ⟨t.ins.A, t.ins.n, t.ins.c, t.ins.l⟩, ⟨t.outs.A, t.outs.n, t.outs.c, t.outs.l⟩, t.anchor, ⟨A1, 0 + t.nulls.n + 1, c1, [] ++ t.nulls.l ++ [t.nulls.l[k.toNat % t.nulls.n]!]⟩, ⟨t.notes.A, t.notes.n, t.notes.c, t.notes.l⟩, t.bal⟩ false) 111 := ⟨(once_nulls hc hl3 hmnulls).trans (if_neg (by omega))⟩
              refine calls_enter Try.func3 rfl _ Try.ntmps3 rfl ?_
              (repeat (first | refine go ?_ | refine goR ?_ | refine goS (fun yc hyc => ?_) | refine goL (fun _ _ => inferInstance) ?_ | with_reducible intro _ | refine goO (by first | omega | (simp only [List.length_cons, List.length_nil]; omega)) ?_ | fail))
              refine WC.draw [15, 17] (.l 1 (.l 2 (.l 4 (.l 5 (.p 6 (.l 7 (.p 8 (.l 9 (.l 10 (.p 11 (.l 12 (.l 13 (.f 0 (.f 3 (.h 14 (.h 15 (.l 16 (.h 17 .nil)))) 14 (.h 3 (.h 15 (.l 16 (.h 17 .nil))))) 14 (.h 0 (.h 3 (.h 15 (.l 16 (.h 17 .nil)))))))))))))))))) mixed (by decide +kernel) ?_
              (repeat' (first | refine go ?_ | refine goS (fun yc hyc => ?_) | refine goL (fun _ _ => inferInstance) ?_ | refine goF ?_ ?_ | with_reducible intro _ | refine goO (by first | omega | (simp only [List.length_cons, List.length_nil]; omega)) ?_ | fail))
              all_goals
                rename Option Addr => A1
                refine WC.freeze A1 (fun s9 hn9 hs9 => ?_)
              all_goals (repeat (first | refine go ?_ | refine goR ?_ | refine goS (fun yc hyc => ?_) | refine goL (fun _ _ => inferInstance) ?_ | with_reducible intro _ | refine goO (by first | omega | (simp only [List.length_cons, List.length_nil]; omega)) ?_ | fail))
              all_goals
                refine WC.draw [15, 17] (.l 1 (.l 2 (.l 4 (.l 5 (.p 6 (.l 7 (.p 8 (.l 9 (.l 10 (.p 11 (.l 12 (.l 13 (.f 0 (.f 3 (.h 14 (.h 15 (.l 16 (.h 17 .nil)))) 14 (.h 3 (.h 15 (.l 16 (.h 17 .nil))))) 14 (.h 0 (.h 3 (.h 15 (.l 16 (.h 17 .nil)))))))))))))))))) mixed (by decide +kernel) ?_
                (repeat' (first | refine go ?_ | refine goS (fun yc hyc => ?_) | refine goL (fun _ _ => inferInstance) ?_ | refine goF ?_ ?_ | with_reducible intro _ | refine goO (by first | omega | (simp only [List.length_cons, List.length_nil]; omega)) ?_ | fail))
              all_goals
                rename Option Addr => A2
                refine WC.freeze A2 (fun s8 hn8 hs8 => ?_)
              all_goals (repeat (first | refine go ?_ | refine goR ?_ | refine goS (fun yc hyc => ?_) | refine goL (fun _ _ => inferInstance) ?_ | with_reducible intro _ | refine goO (by first | omega | (simp only [List.length_cons, List.length_nil]; omega)) ?_ | fail))
              all_goals exact backN (σ0 := σ) Try.results3 (fun σ' _ _ => hK σ' inferInstance)
    · haveI : BV (decide (chkM t false = 0)) false := ⟨decide_eq_false hc⟩
      refine calls_enter Try.func3 rfl _ Try.ntmps3 rfl ?_
      (repeat (first | refine go ?_ | refine goR ?_ | refine goS (fun yc hyc => ?_) | refine goL (fun _ _ => inferInstance) ?_ | with_reducible intro _ | refine goO (by first | omega | (simp only [List.length_cons, List.length_nil]; omega)) ?_ | fail))
      exact backN (σ0 := σ) Try.results3 (fun σ' _ _ => hK σ' inferInstance)⟩
end
end Go.Proofs.Ythdhnkgnbdociaa
