/- The engine, part 11: results of every shape; what can be read as long as nothing turns; methods bound to what they are of. No condition. -/
import Derived.Test.YthdhnkgnbdociaaSg
import Derived.Test.YthdhnkgnbdociaaNu
set_option linter.all false
namespace Go.Proofs.Ythdhnkgnbdociaa
open Go Go.RowKit
section
variable {P : Program} {σ σ' σ0 : St} {f : Fr} {fn : Func} {K : KV} {E : KE}
class ResV (P : Program) (σ : St) (f : Fr) (r : ResultVar) (v : outParam Value) : Prop where
  run : ∀ a : Act, fr a = f → (match r with | .tmp t => pure (a.tmps.getD t undef) | .cell p ty => (do loadVar ty (← asAddr (a.tmps.getD p undef))) : Sem Value).run P σ.w = .ok v σ.w
instance ResV.tmp {j : Nat} {v : Value} [h : At f j v] : ResV P σ f (.tmp j) v := ⟨fun a ha => by
  subst ha; have := h.eq; unfold fr at this; simp only [this, Sem.run_pure]⟩
instance ResV.cell {p b : Nat} {ty t0 : TypeId} {cs : Array Value} {agg : Bool} {sz bytes : Nat} {v : Value} [h : At f p (.pointer (some ⟨b, 0, none⟩))] [o : Own σ b t0 cs] [ti : TI P ty agg sz bytes] [l : LoadV cs 0 sz agg v] : ResV P σ f (.cell p ty) v := ⟨fun a ha => by
  subst ha; have := h.eq; unfold fr at this
  have ha : (asAddr (.pointer (some (⟨b, 0, none⟩ : Addr)))) = pure ⟨b, 0, none⟩ := rfl
  simp only [this, ha, Sem.run_bind, Sem.run_pure, Result.andThen_ok, run_loadVar_cells ti (fun j _ => cell_own o.h _) l]⟩
class ResL (P : Program) (σ : St) (f : Fr) (rs : List ResultVar) (vs : outParam (List Value)) : Prop where
  run : ∀ a : Act, fr a = f → (rs.mapM fun r => (match r with | .tmp t => pure (a.tmps.getD t undef) | .cell p ty => (do loadVar ty (← asAddr (a.tmps.getD p undef))) : Sem Value)).run P σ.w = .ok vs σ.w
instance ResL.nil : ResL P σ f [] [] := ⟨fun a _ => by simp⟩
instance ResL.cons {r : ResultVar} {rs : List ResultVar} {v : Value} {vs : List Value} [h : ResV P σ f r v] [g : ResL P σ f rs vs] : ResL P σ f (r :: rs) (v :: vs) := ⟨fun a ha => by
  simp only [List.mapM_cons, Sem.run_bind, h.run a ha, g.run a ha, Result.andThen_ok, Sem.run_pure]⟩
class RetV (vs : List Value) (v : outParam Value) : Prop where
  eq : (if h : vs.toArray.size = 1 then vs.toArray[0] else .tuple vs.toArray) = v
instance RetV.none_ : RetV [] (.tuple #[]) := ⟨rfl⟩
instance RetV.one {v : Value} : RetV [v] v := ⟨rfl⟩
instance RetV.two {a b : Value} {l : List Value} : RetV (a :: b :: l) (.tuple (a :: b :: l).toArray) := ⟨by simp⟩
theorem resL_run {rs : List ResultVar} {vs : List Value} {v : Value} (hr : fn.results = rs.toArray) [h : ResL P σ f rs vs] [r : RetV vs v] (a : Act) (ha : fr a = f) : (results fn a.tmps).run P σ.w = .ok v σ.w := by
  unfold results
  rw [hr, List.mapM_toArray]
  simp only [Sem.run_bind, Sem.run_map, Sem.run_pure]
  refine (congrArg (fun q => Result.andThen (Result.andThen q _) _) (h.run a ha)).trans ?_
  simp only [Result.andThen_ok]
  rw [← r.eq]
class IsEnd (e : Exit) : Prop where
  h : e = .ret ∨ e = .normal
instance : IsEnd .ret := ⟨.inl rfl⟩
instance : IsEnd .normal := ⟨.inr rfl⟩
theorem resN {e : Exit} {rs : List ResultVar} {vs : List Value} {v : Value} [i : IsEnd e] (hr : fn.results = rs.toArray) [h : ResL P σ f rs vs] [r : RetV vs v] (hk : K v σ) : resQ P fn K E e [] f σ :=
  resQ_mk i.h (fun a ha => resL_run hr a ha) ⟨σ, rfl, hk⟩
theorem backN {e : Exit} {rs : List ResultVar} {vs : List Value} {v : Value} [i : IsEnd e] (hr : fn.results = rs.toArray) [h : ResL P σ f rs vs] [r : RetV vs v] [s : Sub σ0 σ] (hk : ∀ σ', Nx σ0 σ' .no → Bk σ0 σ σ' → K v σ') : resQ P fn K E e [] f σ := by
  obtain ⟨σ', hw, hn, hwk⟩ := s.back
  exact resQ_mk i.h (fun a ha => resL_run hr a ha) ⟨σ', hw, hk σ' hn hwk⟩
end
section
variable {P : Program} {σ σ' : St} {f : Fr} {ty : TypeId} {A : Option Addr} {n c : Nat} {α : Type} {E : Elem α} {xs : List α} {t : TypeId}
instance StepV.nilCheck {x : Operand} {a : Addr} [h : Ev f x (.pointer (some a))] : StepV P (.nilCheck x) ty f σ (.pointer (some a)) := ⟨by simp [execOp, h.eq]⟩
instance (priority := low) ValRule.bound {g : FuncId} {fst args cap all1 all : List Value} {S : Tr} [i : Fnc P g] [ap : AppL fst args all1] [ap2 : AppL all1 cap all] [r : CallRule P g all σ S] : ValRule P (.func (.func g) (List.toArray fst) (List.toArray cap)) args σ S :=
  ⟨fun K E h => ⟨_, _, _, rfl, g, rfl, i, by have := r.sound K E h; rw [← ap2.eq, ← ap.eq] at this; simpa using this⟩⟩
/-- what can be read, as long as nothing that was there turns -/
class RdN (σ : St) (A : Option Addr) (n c : outParam Nat) {α : outParam Type} (E : outParam (Elem α)) (xs : outParam (List α)) : Prop where
  h : ∀ σ' : St, NxP σ σ' .no → Rd σ' A n c E xs
instance RdN.ofSL [h : SL σ A n c E xs] : RdN σ A n c E xs := ⟨fun σ' nx => by
  haveI := h.nx nx
  infer_instance⟩
instance RdN.ofRow [h : Row σ A n c t E xs] : RdN σ A n c E xs := ⟨fun σ' nx => by
  haveI := h.lift nx (fun _ _ h => h)
  infer_instance⟩
instance (priority := low) RdN.lift [nx : Nx σ σ' .no] [h : RdN σ A n c E xs] : RdN σ' A n c E xs := ⟨fun σ2 n2 => h.h σ2 (nx.p.comp n2 (fun _ _ h => h))⟩
instance (priority := low) Rd.ofN [h : RdN σ A n c E xs] : Rd σ A n c E xs := h.h σ (NxP.refl σ)
instance RdN.cut {l u : Nat} [h : RdN σ A n c E xs] [a1 : LeN l u] [a2 : LeN u n] : RdN σ (cutA E A l u c) (u - l) (c - l) E ((xs.drop l).take (u - l)) := ⟨fun σ' nx => by
  haveI := h.h σ' nx
  exact Rd.cut⟩
theorem Rd.okAt [Inhabited α] (h : Rd σ A n c E xs) {i : Nat} (hi : i < n) : OkE σ E xs[i]! := ⟨h.ok _ (by rw [getElem!_pos xs i (by rw [h.len]; exact hi)]; exact List.getElem_mem _)⟩
end
/-! append to what nobody writes, where it has no room: a new row -/
class Grow (c k : Nat) : Prop where
  lt : c < k
instance Grow.lit {c k : Nat} [h : EqB (Nat.ble k c) false] : Grow c k := ⟨lt_of_nble' h⟩
section
variable {P : Program} {σ : St} {f : Fr} {ty t e : TypeId} {A B : Option Addr} {n c m d bytes : Nat} {α : Type} [Inhabited α] {E : Elem α} {xs ys : List α}
theorem append_grow {z : α} (r : Rd σ A n c E xs) (s : Rd σ B m d E ys) (ut : U P t (.slice e)) (eo : ElemOf P e E bytes) (ze : ZeroE P e E z) (hn0 : 0 < n) (hg : c < n + m) (hb : (n + m) * bytes ≤ 140737488355328) (hmx0 : n + m ≤ 9223372036854775807) :
    ∃ σ' A' c', (Builtin.append_ #[t, t] ty #[.slice A n c, .slice B m d]).run P σ.w = .ok (.slice A' (n + m) c') σ'.w ∧ NxP σ σ' .no ∧ RowNew σ none A' ∧ Row σ' A' (n + m) c' e E (xs ++ ys) := by
  have hmx : n + m ≤ maxLen := by simp only [maxLen]; omega
  obtain ⟨d0, i, hd0, hag, hi, hsz, hby⟩ := eo.ti.h
  obtain ⟨i', zv, hi', hz, hzc⟩ := ze.h
  rw [hi] at hi'; injection hi' with hi'; subst hi'
  have hlen : xs.length = n := r.len
  have hl2 : ys.length = m := s.len
  have hle := r.le
  have hpos := E.pos
  have hzs : zv.cells.size = i.size := by rw [hzc, E.size, hsz]
  have cells_of : ∀ {A : Option Addr} {n c : Nat} {xs : List α}, Rd σ A n c E xs → ∀ ad, A = some ad → ∀ j v, (E.flat xs)[j]? = some v → σ.w.cell? (ad.add j) = some v := by
    intro B m d ys s ad hB j v hv
    rcases s.rd with h0 | ⟨b, o, ha, hc⟩
    · have hy : ys = [] := List.eq_nil_of_length_eq_zero (by have := s.len; omega)
      subst hy
      simp [Elem.flat] at hv
    · rw [hB] at ha; injection ha with ha; subst ha
      rw [add_at]; exact hc j v hv
  have hlx : (xs ++ ys).length = n + m := by simp [hl2, hlen]
  obtain ⟨aa, hA⟩ : ∃ ad, A = some ad := by
    rcases r.rd with h0 | ⟨b, o, ha, _⟩
    · omega
    · exact ⟨_, ha⟩
  obtain ⟨ad, hB⟩ : ∃ ad, B = some ad := by
    rcases s.rd with h0 | ⟨b, o, ha, _⟩
    · omega
    · exact ⟨_, ha⟩
  have hcx := cells_of r aa hA
  have hcy := cells_of s ad hB
  have hge := grownCap_ge σ.w (n + m) c e
  have hcm : grownCap σ.w (n + m) c e ≤ maxLen := grownCap_le_maxLen σ.w (n + m) c e hmx
  obtain ⟨σ1, hw1, hn1⟩ := st_drew σ (σ.w.drawn + 1)
  obtain ⟨σ2, hw2, hn2, hm2, hm2', ho2, hs2⟩ := st_new σ1 (.cells ((E.flat xs).toArray ++ (E.flat ys).toArray ++ Builtin.zeroCells zv.cells (grownCap σ.w (n + m) c e - (n + m))) e) True
  have hz1 : σ1.w.heap.size = σ.w.heap.size := by rw [hw1]
  have hd : σ1.w = σ.w.drew := hw1
  have hn3 : NxP σ σ2 .no := ⟨hn2.os.trans hn1.os, hn2.tape.trans hn1.tape, hn2.output.trans hn1.output, Nat.le_trans hn1.size hn2.size, fun b hb hb' => (hn2.imm b (by omega) (fun h => hb' (hn1.mm b hb h))).trans (hn1.imm b hb hb'),
    fun b hb h => hn1.mm b hb (hn2.mm b (by omega) h), fun b hb _ => ⟨((hn2.own b (by omega) id).1).trans (hn1.own b hb id).1, fun h => (hn2.own b (by omega) id).2 ((hn1.own b hb id).2 h)⟩, trivial⟩
  have hfl : (E.flat xs).toArray ++ (E.flat ys).toArray ++ Builtin.zeroCells zv.cells (grownCap σ.w (n + m) c e - (n + m)) = (E.flat (xs ++ ys ++ List.replicate (grownCap σ.w (n + m) c e - (n + m)) z)).toArray := by
    rw [zeroCells_flat E z _ hzc]; simp [E.flat_append]
  have hrow : Row σ2 (some ⟨σ.w.heap.size, 0, none⟩) (n + m) (grownCap σ.w (n + m) c e) e E (xs ++ ys) :=
    Row.mk_ hlx hge hcm rfl (by rw [hz1] at ho2; rw [ho2, hfl]) (by simp [hlx, hl2, hlen]; omega) (by rw [List.take_append_of_le_length (by omega), List.take_of_length_le (by omega)]) (fun x hx => by
      rcases List.mem_append.1 hx with hx | hx
      · rcases List.mem_append.1 hx with hx | hx
        · exact E.nx _ _ _ _ hn3 (r.ok x hx)
        · exact E.nx _ _ _ _ hn3 (s.ok x hx)
      · rw [(List.mem_replicate.1 hx).2]; exact ze.ok _) (by rw [hz1] at hm2; exact hm2.2 trivial)
  have hr := run_append_grow (P := P) σ.w t ty e i zv ut.h hi hz aa n c (E.flat xs) (by rw [E.flat_length, hsz, hlen]) hcx ad m d (E.flat ys) (by rw [E.flat_length, hl2, hsz]) hcy (by omega) (by omega) (by rw [hby]; exact growslice_fits (by omega) hb)
  subst hA; subst hB
  exact ⟨σ2, _, _, by rw [hw2, hd]; exact hr, hn3, ⟨fun a' ha' => by injection ha' with ha'; subst ha'; exact .inr (Nat.le_refl _)⟩, hrow⟩
instance (priority := low) Step.append_full {z : α} {x y : Operand} [h : Ev f x (.slice A n c)] [g : Ev f y (.slice B m d)] [s0 : SL σ A n c E xs] [gr : Grow c (n + m)] [ps : PosN n] [ut : U P t (.slice e)] [eo : ElemOf P e E bytes] [s : Rd σ B m d E ys] [ze : ZeroE P e E z] :
    Step P (.call { callee := .builtin .append, args := #[x, y], argTypes := #[t, t] }) ty f σ
      (fun K _ => ((n + m) * bytes ≤ 140737488355328 ∧ n + m ≤ 9223372036854775807) ∧ ∀ (σ' : St) (A' : Option Addr) (c' : Nat), Nx σ σ' .no → RowNew σ none A' → Row σ' A' (n + m) c' e E (xs ++ ys) → K (.slice A' (n + m) c') σ') := ⟨fun K E' hK => by
  obtain ⟨⟨hb, hmx0⟩, hK⟩ := hK
  obtain ⟨σ', A', c', hrun, hn, hrn, hrow⟩ := append_grow (ty := ty) (inferInstance : Rd σ A n c E xs) s ut eo ze ps.pos gr.lt hb hmx0
  have hr : (execOp (evo f) ⟨none, .call { callee := .builtin .append, args := #[x, y], argTypes := #[t, t] }, ty, "", #[], none⟩).run P σ.w = .ok (.value (.slice A' (n + m) c')) σ'.w := by
    simp [execOp, resolve, h.eq, g.eq, invoke, builtin, hrun]
  unfold OpW; rw [hr]
  exact ⟨σ', rfl, hK σ' A' c' ⟨hn⟩ hrn hrow⟩⟩
end
theorem Wo.freeze {P : Program} {ops : Array Oper} {n0 : Nat} {Q : PostQ} {mu : List Nat} {r : Bool} {k : Kd} {i : Nat} {o : Oper} {p : PT} {D : List Deferred} {f : Fr} {σ : St} (A : Option Addr) {n c : Nat} {t : TypeId} {α : Type} {E : Elem α} {xs : List α} [h : Row σ A n c t E xs]
    (hk : ∀ σ' : St, Nx σ σ' (.row A t) → SL σ' A n c E xs → Wo P ops n0 Q mu r k i o p D f σ') : Wo P ops n0 Q mu r k i o p D f σ := by
  obtain ⟨σ', hw, hn, hs⟩ := h.freeze
  have := hk σ' ⟨hn⟩ hs
  unfold Wo at *
  intro ho hg
  have h2 := this ho hg
  unfold WX at *
  rw [hw] at h2
  exact h2
/-- what can be read, as long as no more than X turns -/
class RdX (σ : St) (X : Xs) (A : Option Addr) (n c : outParam Nat) {α : outParam Type} (E : outParam (Elem α)) (xs : outParam (List α)) : Prop where
  h : ∀ σ' : St, NxP σ σ' X → Rd σ' A n c E xs
instance RdX.ofSL {σ : St} {X : Xs} {A : Option Addr} {n c : Nat} {α : Type} {E : Elem α} {xs : List α} [h : SL σ A n c E xs] : RdX σ X A n c E xs := ⟨fun σ' nx => by
  haveI := h.nx nx
  infer_instance⟩
instance RdX.ofRow {σ : St} {X : Xs} {A : Option Addr} {n c : Nat} {t : TypeId} {α : Type} {E : Elem α} {xs : List α} [h : Row σ A n c t E xs] [k : MisR σ X A t] : RdX σ X A n c E xs := ⟨fun σ' nx => by
  haveI := h.lift nx (k.h h.typed nx.ty)
  infer_instance⟩
theorem two_set {α : Type} [Inhabited α] {zs : List α} {i j k : Nat} {a b : α} (hk : k < zs.length) : ((zs.set i a).set j b)[k]! = if j = k then b else if i = k then a else zs[k]! := by
  rw [getElem!_pos _ k (by simpa using hk), getElem!_pos zs k hk]
  simp only [List.getElem_set]
/-- ways meet behind a block -/
theorem WC.cutB {P : Program} {n id : Nat} {Q : PostQ} {D : List Deferred} {f : Fr} {σ : St} {next : List Deferred → Fr → St → Prop} (W : Nat) (X : Xs) (R : Fr → St → Prop) {c : Code} (h1 : WC P n (blockQ id (thenQ (fun D' f' σ' => D' = D ∧ Agree f' W f ∧ Nx σ σ' X ∧ R f' σ') Q)) c D f σ) (h2 : ∀ f' σ', Agree f' W f → Nx σ σ' X → R f' σ' → next D f' σ') : WC P n (blockQ id (thenQ next Q)) c D f σ :=
  WC.mono h1 (fun e D' f' σ' hq => by
    have key : ∀ e, thenQ (fun D' f' σ' => D' = D ∧ Agree f' W f ∧ Nx σ σ' X ∧ R f' σ') Q e D' f' σ' → thenQ next Q e D' f' σ' := by
      intro e hq
      cases e with
      | normal =>
        unfold thenQ at hq ⊢
        obtain ⟨rfl, h⟩ := hq; exact h2 _ _ h.1 h.2.1 h.2.2
      | _ =>
        unfold thenQ at hq ⊢
        exact hq
    cases e with
    | exit id' =>
      unfold blockQ at hq ⊢
      simp only at hq ⊢
      split at hq
      · rename_i he; rw [if_pos he]; exact key _ hq
      · rename_i he; rw [if_neg he]; exact key _ hq
    | _ =>
      unfold blockQ at hq ⊢
      exact key _ hq)
/-! the least of numbers -/
def minL : List Nat → Nat
  | [] => 0
  | a :: l => l.foldl min a
class NatsV (vs : List Value) (k : outParam IntKind) (ns : outParam (List Nat)) : Prop where
  eq : vs = ns.map fun (n : Nat) => .int k (n : Int)
  ne : ns ≠ []
instance NatsV.one {k : IntKind} {j : Int} {n : Nat} [q : ToNat j n] : NatsV [.int k j] k [n] := ⟨by simp [q.eq], by simp⟩
instance NatsV.cons {k : IntKind} {j : Int} {n : Nat} {v : Value} {vs : List Value} {ns : List Nat} [q : ToNat j n] [h : NatsV (v :: vs) k ns] : NatsV (.int k j :: v :: vs) k (n :: ns) := ⟨by simp [q.eq, h.eq], by simp⟩
theorem run_min2_nats {P : Program} {w : World} (k : IntKind) : ∀ (l : List Nat) (a : Nat), ((l.map fun (n : Nat) => Value.int k (n : Int)).foldlM Builtin.min2 (.int k (a : Int))).run P w = .ok (.int k ((l.foldl min a : Nat) : Int)) w
  | [], a => by simp
  | n :: l, a => by
    have h1 : (Builtin.min2 (.int k (a : Int)) (.int k (n : Int))).run P w = .ok (.int k ((min a n : Nat) : Int)) w := by
      simp only [Builtin.min2]
      by_cases h : n < a
      · have : ((n : Int) < (a : Int)) := by omega
        simp [this, Nat.min_eq_right (Nat.le_of_lt h)]
      · have : ¬ ((n : Int) < (a : Int)) := by omega
        simp [this, Nat.min_eq_left (Nat.le_of_not_lt h)]
    simp only [List.map_cons, List.foldlM_cons, Sem.run_bind, h1, Result.andThen_ok, List.foldl_cons]
    exact run_min2_nats k l (min a n)
instance StepV.min_nats {P : Program} {σ : St} {f : Fr} {ty : TypeId} {xs : List Operand} {ts : Array TypeId} {vs : List Value} {k : IntKind} {ns : List Nat} [e : EvL f xs vs] [h : NatsV vs k ns] : StepV P (.call { callee := .builtin .min, args := xs.toArray, argTypes := ts }) ty f σ (.int k ((minL ns : Nat) : Int)) := ⟨by
  have h1 := h.eq
  have key : (Builtin.min_ ts ty vs.toArray).run P σ.w = .ok (.int k ((minL ns : Nat) : Int)) σ.w := by
    unfold Builtin.min_
    have hne := h.ne
    match ns, h1, hne with
    | [], _, hne => exact absurd rfl hne
    | n :: l, h1, _ => subst h1; exact run_min2_nats k l n
  simp [execOp, resolve, e.eq, invoke, builtin, key]⟩
end Go.Proofs.Ythdhnkgnbdociaa
