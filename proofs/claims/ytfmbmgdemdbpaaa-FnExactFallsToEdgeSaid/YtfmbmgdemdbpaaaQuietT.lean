/- A region that draws its order: reads and calls that make memory, then one store that waits for all of them. The store is left out of the quiet walk and done last. -/
import Derived.Deep.Quiet
import Derived.Lib.QuietBelow
import Derived.BigQuiet
namespace Go.Proofs.Ytfmbmgdemdbpaaa
open Go Go.Sort

/-- two regions whose operations wait for the same ones and leave what they yield in the same places -/
def Alike (ops ops2 : Array Oper) : Prop := ∀ j : Nat, (ops[j]?).map (fun o => (o.after, o.dst)) = (ops2[j]?).map (fun o => (o.after, o.dst))

section
variable {P : Program} {ops ops2 : Array Oper} {md : Region.Mode} {C : World → Prop}

theorem alike_size (h : Alike ops ops2) : ops.size = ops2.size := by
  rcases Nat.lt_trichotomy ops.size ops2.size with g | g | g
  · have := h ops.size
    rw [Array.getElem?_eq_none (Nat.le_refl _), Array.getElem?_eq_getElem g] at this
    cases this
  · exact g
  · have := h ops2.size
    rw [Array.getElem?_eq_none (xs := ops2) (Nat.le_refl _), Array.getElem?_eq_getElem g] at this
    cases this
theorem alike_ready (h : Alike ops ops2) (listed : Array Bool) : Region.ready md ops listed = Region.ready md ops2 listed := by
  unfold Region.ready
  rw [alike_size h]
  congr 1
  funext i
  have e := congrArg (Option.map Prod.fst) (h i)
  rw [Option.map_map, Option.map_map] at e
  have e2 := congrArg (Option.map fun d : Array Edge => d.all fun e => !Region.binds md e || listed.getD e.on false) e
  rw [Option.map_map, Option.map_map] at e2
  exact congrArg (fun x => !listed.getD i true && x) (congrArg (fun x : Option Bool => x.getD false) e2)
theorem alike_yielded (h : Alike ops ops2) (tmps : Array Value) : yielded ops tmps = yielded ops2 tmps := by
  funext j
  have e : (ops[j]?).bind (·.dst) = (ops2[j]?).bind (·.dst) := by
    have := h j
    cases h1 : ops[j]? <;> cases h2 : ops2[j]? <;> simp_all
  unfold yielded
  rw [e]

/-- some operation can come up, as long as the last has not -/
theorem ready_some {n : Nat} {listed : Array Bool} (hn : ops.size = n + 1) (hs : listed.size = n + 1) (hl : listed.getD n true = false)
    (hback : ∀ (j : Nat) (x : Oper), ops[j]? = some x → ∀ e ∈ x.after, e.on < j) : ∃ j, j ∈ Region.ready md ops listed := by
  have least : ∀ k, k ≤ n → listed.getD k true = false → ∃ j, j ≤ n ∧ listed.getD j true = false ∧ ∀ i, i < j → listed.getD i true = true := by
    intro k
    induction k using Nat.strongRecOn with
    | _ k ih =>
      intro hk hf
      by_cases g : ∃ i, i < k ∧ listed.getD i true = false
      · obtain ⟨i, hi, hf2⟩ := g
        exact ih i hi (by omega) hf2
      · refine ⟨k, hk, hf, fun i hi => ?_⟩
        cases e : listed.getD i true
        · exact absurd ⟨i, hi, e⟩ g
        · rfl
  obtain ⟨j, hj, hf, hall⟩ := least n (Nat.le_refl _) hl
  refine ⟨j, mem_ready.2 ⟨hf, ops[j]'(by omega), Array.getElem?_eq_getElem (by omega), fun e he _ => ?_⟩⟩
  have h1 := hback j _ (Array.getElem?_eq_getElem (by omega)) e he
  have h2 := hall _ h1
  have h3 : e.on < listed.size := by omega
  simp [h3] at h2 ⊢
  exact h2

theorem any_of_nop {n : Nat} {o : Oper} {Q : Act → Prop} {Q' : Exit → Act → World → Prop} (hn : ops.size = n + 1) (al : Alike ops ops2) (hh : ∀ j, j < n → ops[j]? = ops2[j]?)
    (hback : ∀ (j : Nat) (x : Oper), ops[j]? = some x → ∀ e ∈ x.after, e.on < j) (ho : ops[n]? = some o) (hd : o.dst = none) (hwait : ∀ i, i < n → ∃ e ∈ o.after, Region.binds md e = true ∧ e.on = i)
    (hq : ∀ a w, C w → Q a → wpList P ops Q' [o] a w) :
    ∀ (fuel : Nat) (listed : Array Bool) (a : Act) (w : World), listed.size = n + 1 → listed.getD n true = false → C w → wpAnyQ P md ops2 C Q fuel listed a → wpAny P md ops Q' fuel listed a w
  | 0, listed, a, w, hs, hl, _, h => by
    obtain ⟨j, hj⟩ := ready_some (md := md) hn hs hl hback
    have h1 := h.1
    rw [← alike_ready al] at h1
    rw [h1] at hj
    cases hj
  | fuel + 1, listed, a, w, hs, hl, hw, h => by
    refine ⟨fun h0 => ?_, fun i hi => ?_⟩
    · obtain ⟨j, hj⟩ := ready_some (md := md) hn hs hl hback
      rw [h0] at hj
      cases hj
    · have h2 := h.2 i (by rw [← alike_ready al]; exact hi)
      obtain ⟨_, oi, hoi, hdone⟩ := mem_ready.1 hi
      have hlt : i < ops.size := (Array.getElem?_eq_some_iff.1 hoi).1
      by_cases hin : i = n
      · subst hin
        obtain rfl : oi = o := Option.some.inj (hoi.symm.trans ho)
        have hend : Region.ready md ops (listed.setIfInBounds i true) = [] := by
          apply List.eq_nil_iff_forall_not_mem.2
          intro j hj
          obtain ⟨hf, oj, hoj, _⟩ := mem_ready.1 hj
          have hjl : j < ops.size := (Array.getElem?_eq_some_iff.1 hoj).1
          by_cases e : j = i
          · subst e
            simp [hs] at hf
          · obtain ⟨e1, he1, hb1, hon⟩ := hwait j (by omega)
            have := hdone e1 he1 hb1
            rw [hon] at this
            have h3 : j < listed.size := by omega
            rw [getD_set_ne true (Ne.symm e)] at hf
            simp [h3] at hf this
            rw [this] at hf
            cases hf
        have hQ : Q a := by
          have put : ∀ v, a.put ((ops2[i]?).bind (·.dst)) v = a := by
            intro v
            have : (ops2[i]?).bind (·.dst) = none := by
              have := al i
              rw [ho] at this
              cases h3 : ops2[i]? with
              | none => rfl
              | some x => rw [h3] at this; simp [hd] at this; simp [← this.2]
            rw [this]; rfl
          have hK : wpAnyQ P md ops2 C Q fuel (listed.setIfInBounds i true) a := by
            unfold qOp at h2
            cases h3 : ops2[i]? with
            | none => simpa [h3] using h2
            | some x =>
              have hx := put
              simp only [h3, Option.bind_some] at hx h2
              split at h2
              · obtain ⟨v, _, hv⟩ := h2
                rwa [hx v] at hv
              · rwa [hx undef] at h2
          cases fuel with
          | zero => exact hK.2
          | succ f => exact hK.1 (by rw [← alike_ready al]; exact hend)
        have hop : wpOp P ops Q' i (wpList P ops Q' []) a w := by unfold wpOp; simp only [ho]; exact hq a w hw hQ
        refine wpOp_mono (fun a' w' h' => ?_) hop
        cases fuel with
        | zero => exact ⟨hend, h'⟩
        | succ f => exact ⟨fun _ => h', fun j hj => by rw [hend] at hj; cases hj⟩
      · have h3 : qOp P ops C i (wpAnyQ P md ops2 C Q fuel (listed.setIfInBounds i true)) a := by
          unfold qOp at h2 ⊢
          rw [hh i (by omega), alike_yielded al]
          exact h2
        exact wpOp_of_qOp hw (fun a' w' hw' h' => any_of_nop hn al hh hback ho hd hwait hq fuel _ a' w' (by simpa using hs) (by rw [getD_set_ne true hin]; exact hl) hw' h') h3
end

/-- the same operation, doing nothing -/
def nop (o : Oper) : Oper := { o with op := Op.move (Operand.const undef) }
/-- the last operation left out -/
def nopped (n : Nat) (l : List Oper) : List Oper := l.take n ++ (l.drop n).map nop
def backB : Nat → List Oper → Bool
  | _, [] => true
  | j, x :: l => (x.after.toList.all fun e => decide (e.on < j)) && backB (j + 1) l
def tailB (n : Nat) (l : List Oper) : Bool :=
  decide (l.length = n + 1) && (backB 0 l && ((l.drop n).all fun o => o.dst.isNone && (List.range n).all fun i => o.after.toList.any fun e => Region.binds .any e && decide (e.on = i)))
theorem backB_at : ∀ {l : List Oper} {k : Nat}, backB k l = true → ∀ (j : Nat) (x : Oper), l[j]? = some x → ∀ e ∈ x.after, e.on < k + j
  | [], _, _, j, x, hx => by simp at hx
  | y :: l, k, h, j, x, hx => by
    rw [backB, Bool.and_eq_true] at h
    cases j with
    | zero =>
      simp at hx
      subst hx
      intro e he
      have := List.all_eq_true.1 h.1 e (by simpa using he)
      simpa using this
    | succ j =>
      intro e he
      have := backB_at h.2 j x (by simpa using hx) e he
      omega

theorem region_quiet_last {P : Program} {C : World → Prop} {id : Nat} {Q : Exit → Act → World → Prop} {a : Act} {w : World} {l : List Oper} (n : Nat) (hm : P.follows .mixedOrders = true)
    (hB : Region.lexB .any (nopped n l).toArray = true) (hT : tailB n l = true) (hC : C { w with drawn := w.drawn + 1 })
    (h : wpQuiet P (nopped n l).toArray C (fun a' => ∀ w', C w' → wpList P l.toArray Q (l.drop n) a' w') (nopped n l) a) : (Code.region id l.toArray true).wp P Q a w := by
  simp only [tailB, Bool.and_eq_true, decide_eq_true_eq] at hT
  obtain ⟨hlen, hback, hlast⟩ := hT
  obtain ⟨o, hdrop⟩ : ∃ o, l.drop n = [o] := by
    have : (l.drop n).length = 1 := by simp [hlen]
    exact List.length_eq_one_iff.1 this
  rw [hdrop] at hlast h
  simp only [List.all_cons, List.all_nil, Bool.and_true, Bool.and_eq_true, Option.isNone_iff_eq_none] at hlast
  have hl : l = l.take n ++ [o] := by rw [← hdrop, List.take_append_drop]
  have htl : (l.take n).length = n := by simp [hlen]
  have e2 : nopped n l = l.take n ++ [nop o] := by rw [nopped, hdrop]; rfl
  have at1 : ∀ j, j < n → l.toArray[j]? = (nopped n l).toArray[j]? := fun j hj => by
    rw [List.getElem?_toArray, List.getElem?_toArray, e2, List.getElem?_append_left (by omega), List.getElem?_take_of_lt hj]
  have at2 : l.toArray[n]? = some o := by
    rw [List.getElem?_toArray]
    have := List.getElem?_drop (xs := l) (i := n) (j := 0)
    rw [hdrop] at this
    simpa using this.symm
  have at3 : (nopped n l).toArray[n]? = some (nop o) := by
    rw [List.getElem?_toArray, e2, List.getElem?_append_right (by omega), htl]; simp
  have al : Alike l.toArray (nopped n l).toArray := fun j => by
    rcases Nat.lt_trichotomy j n with g | g | g
    · rw [at1 j g]
    · subst g; rw [at2, at3]; rfl
    · rw [Array.getElem?_eq_none (by simp [hlen]; omega), Array.getElem?_eq_none (by rw [e2]; simp [htl]; omega)]
  have hs := Bool.and_eq_true_iff.1 (show (Region.noSelect (nopped n l).toArray && Region.lexFrom .any (nopped n l).toArray (nopped n l).toArray.size 0 (Array.replicate (nopped n l).toArray.size false)) = true from hB)
  have hsz : (nopped n l).toArray.size = n + 1 := by rw [← alike_size al]; simpa using hlen
  have H := wpAnyQ_lex (C := C) (md := .any) hs.1 (nopped n l) 0 (Array.replicate (nopped n l).toArray.size false) a (by simp) (by simpa using hs.2) h
  refine wp_region_any hm ?_
  have hf : (nopped n l).length = l.toArray.size := by rw [alike_size al]; simp
  rw [← alike_size al, hf] at H
  refine any_of_nop (n := n) (by simpa using hlen) al at1 (fun j x hx e he => ?_) at2 hlast.1 (fun i hi => ?_) (fun a' w' hw' hq => hq w' hw') _ _ _ _ (by simp [hlen]) (by simp [hlen]) hC H
  · have := backB_at hback j x (by rw [← List.getElem?_toArray]; exact hx) e he
    omega
  · have := List.all_eq_true.1 hlast.2 i (List.mem_range.2 hi)
    obtain ⟨e, he, hb⟩ := List.any_eq_true.1 this
    rw [Bool.and_eq_true, decide_eq_true_eq] at hb
    exact ⟨e, by simpa using he, hb.1, hb.2⟩

theorem region_below_last {P : Program} {id : Nat} {Q : Exit → Act → World → Prop} {a : Act} {w : World} {l : List Oper} (n : Nat) (hm : P.follows .mixedOrders = true)
    (hB : Region.lexB .any (nopped n l).toArray = true) (hT : tailB n l = true)
    (h : wpQuiet P (nopped n l).toArray (fun w' => ∃ p : Regrown, w' = grow (redrawn w p.d) p.os) (fun a' => ∀ w', (∃ p : Regrown, w' = grow (redrawn w p.d) p.os) → wpList P l.toArray Q (l.drop n) a' w') (nopped n l) a) : (Code.region id l.toArray true).wp P Q a w :=
  region_quiet_last (C := fun w' => ∃ p : Regrown, w' = grow (redrawn w p.d) p.os) n hm hB hT ⟨⟨w.drawn + 1, #[]⟩, by rw [grow_empty]; rfl⟩ h
end Go.Proofs.Ytfmbmgdemdbpaaa
