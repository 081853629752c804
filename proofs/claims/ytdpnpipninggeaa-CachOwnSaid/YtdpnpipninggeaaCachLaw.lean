/- What is kept ready, plainly: who is resident, behind each call of the ring. -/
import Derived.Test.YtdpnpipninggeaaClkSt
import Derived.Test.YtdpnpipninggeaaClkInv
import Derived.Test.YtdpnpipninggeaaMaps
set_option linter.unusedSimpArgs false
set_option linter.unusedVariables false
set_option maxRecDepth 20000
namespace Go.Proofs.Ytdpnpipninggeaa
open Go
/-- whether a page is resident -/
def inR (c : Clk) (x : Ky) : Prop := ∃ p ∈ c.pages, p.key = x ∧ p.kind ≠ 3
theorem inR_cnt {c : Clk} {x : Ky} : inR c x ↔ cnt (badX x) c.pages ≠ 0 := by
 constructor
 ·rintro ⟨p, hp, hk, h3⟩ h
  have := allNot h hp
  simp [badX, hk, h3] at this
 ·intro h
  obtain ⟨p, hp, hb⟩ := cnt_pos h
  simp [badX] at hb
  exact ⟨p, hp, hb.1, hb.2⟩
theorem inR_of {c d : Clk} {x : Ky} (h : cnt (badX x) d.pages = cnt (badX x) c.pages) : inR d x ↔ inR c x := by rw [inR_cnt, inR_cnt, h]
theorem coldL_kx {x : Ky} : ∀ (n : Nat) (c : Clk) (r : Clk × Ky), coldL n c = some r → r.2 ≠ x → cnt (badX x) r.1.pages = cnt (badX x) c.pages
 | 0, c, r, e, _ => by cases e
 | n + 1, c, r, e, hx => by
  unfold coldL at e
  cases hf : freeL n c with
  | none => rw [hf] at e; cases e
  | some f =>
   rw [hf] at e
   simp only [Option.bind_some] at e
   rw [← freeL_keep (keepX x) n c f hf]
   split at e
   ·cases e
   ·rename_i p hp
    split at e
    ·exact coldL_kx n { f with cold := onP f f.cold } r e hx
    ·rename_i hcf
     obtain ⟨k2, kp⟩ := isCold_of hcf
     split at e
     ·cases hy : coolL n { setP f f.cold { p with kind := 1, ref := false, trial := false } with cold := onP f f.cold } with
      | none => rw [hy] at e; cases e
      | some y =>
       rw [hy] at e
       rw [coldL_kx n y r e hx, coolL_keep (keepX x) n _ y hy]
       exact cnt_set_eq hp (by simp [badX, k2])
     ·split at e
      ·rw [coldL_kx n _ r e hx]
       exact cnt_set_eq hp rfl
      ·unfold putP at e
       rw [hp] at e
       simp only [] at e
       obtain ⟨y, hy, he⟩ := Option.map_eq_some_iff.1 e
       subst he
       dsimp only at hx ⊢
       rw [overL_keep (keepX x) n _ y hy]
       split
       ·exact cnt_set_eq hp (by simp [badX, hx])
       ·exact cnt_del_eq hp (by simp [badX, hx])
theorem outL_kx {x : Ky} : ∀ (n : Nat) (c : Clk) (out : List Ky) (r : Clk × List Ky), outL n c out = some r → x ∉ r.2 → cnt (badX x) r.1.pages = cnt (badX x) c.pages ∧ x ∉ out
 | 0, c, out, r, e, _ => by cases e
 | n + 1, c, out, r, e, hx => by
  unfold outL at e
  split at e
  ·cases hy : coldL n c with
   | none => rw [hy] at e; cases e
   | some y =>
    rw [hy] at e
    obtain ⟨h1, h2⟩ := outL_kx n y.1 _ r e hx
    simp only [List.mem_append, List.mem_singleton, not_or] at h2
    exact ⟨by rw [h1, coldL_kx n c y hy (fun e => h2.2 e.symm)], h2.1⟩
  ·cases e; exact ⟨rfl, hx⟩
theorem touch_in (c : Clk) (k x : Ky) : inR (touchP c k).1 x ↔ inR c x := by
 rcases fnd_lt c.pages k with hf | ⟨i, p, hf, hp, hpk⟩
 ·rw [touch_no hf]
 ·rw [touch_at hf hp]
  split
  ·exact inR_of (cnt_set_eq hp rfl)
  ·exact Iff.rfl
theorem pin_in (c : Clk) (k x : Ky) (n : Int) : inR (pinP c k n).1 x ↔ inR c x := by
 rcases fnd_lt c.pages k with hf | ⟨i, p, hf, hp, hpk⟩
 ·rw [pin_no hf]
 ·rw [pin_at hf hp]
  split
  ·exact inR_of (cnt_set_eq hp rfl)
  ·exact Iff.rfl
theorem res_iff {c : Clk} (hK : cnt badK c.pages = 0) {p : Pg} (hp : p ∈ c.pages) : isRes p = true ↔ p.kind ≠ 3 := by
 have hk := allNot hK hp
 unfold badK at hk
 unfold isRes
 simp at hk ⊢
 omega
theorem at_uniq {c : Clk} (h : Bnd c) {k : Ky} {i : Nat} {p : Pg} (hp : c.pages[i]? = some p) (hpk : p.key = k) : inR c k ↔ p.kind ≠ 3 := by
 constructor
 ·rintro ⟨q, hq, hqk, h3⟩
  obtain ⟨j, hj⟩ := List.mem_iff_getElem?.1 hq
  have := key_uniq h.ky hp hj (hqk.trans hpk.symm)
  subst this
  rw [hp] at hj
  cases hj
  exact h3
 ·intro h3
  exact ⟨p, List.mem_of_getElem? hp, hpk, h3⟩
theorem touch_ok {c : Clk} (h : Bnd c) (k : Ky) : (touchP c k).2 = true ↔ inR c k := by
 rcases fnd_lt c.pages k with hf | ⟨i, p, hf, hp, hpk⟩
 ·rw [touch_no hf]
  exact ⟨fun e => (by cases e), fun ⟨p, hp, hk, _⟩ => absurd hk (fnd_none hf p hp)⟩
 ·rw [touch_at hf hp, at_uniq h hp hpk, ← res_iff h.bk (List.mem_of_getElem? hp)]
  split
  ·rename_i hr; exact ⟨fun _ => hr, fun _ => rfl⟩
  ·rename_i hr; exact ⟨fun e => (by cases e), fun e => absurd e hr⟩
theorem del_in {c : Clk} (hn : (c.pages.map Pg.key).Nodup) {i : Nat} {p : Pg} (hp : c.pages[i]? = some p) (x : Ky) : cnt (badX x) (c.pages.take i ++ c.pages.drop (i + 1)) = if x = p.key then 0 else cnt (badX x) c.pages := by
 split
 ·rename_i e
  rw [e]
  exact badX_del hn hp
 ·rename_i e
  exact cnt_del_eq hp (by simp [badX]; intro h; exact absurd h.symm e)
theorem drop_in {c : Clk} (h : Bnd c) {k x : Ky} {i : Nat} (hf : fndK c.pages k = (i : Int)) : inR (dropP c k).1 x ↔ inR c x ∧ x ≠ k := by
 rcases fnd_lt c.pages k with hf' | ⟨j, p, hf', hp, hpk⟩
 ·rw [hf] at hf'; omega
 ·rw [drop_at hf']
  have hd := del_in h.ky hp x
  rw [inR_cnt, inR_cnt]
  show cnt (badX x) (c.pages.take j ++ c.pages.drop (j + 1)) ≠ 0 ↔ _
  rw [hd, hpk]
  split
  ·rename_i e; exact ⟨fun e => absurd rfl e, fun e2 => absurd e e2.2⟩
  ·rename_i e; exact ⟨fun q => ⟨q, e⟩, fun q => q.1⟩
/-- who is resident behind a page that came -/
theorem admit_in {n : Nat} {c : Clk} {k : Ky} {d : Clk × List Ky × Bool} (h : Bnd c) (hn : 500000 ≤ n) (e : admitP n c k = some d) (hok : d.2.2 = true) (x : Ky) : inR d.1 x ↔ x = k ∨ (inR c x ∧ x ∉ d.2.1) := by
 have hA := h.admits hn e
 by_cases hxk : x = k
 ·obtain ⟨q, hq, hqk, h3⟩ := hA.is hok
  exact ⟨fun _ => .inl hxk, fun _ => ⟨q, hq, by rw [hxk]; exact hqk, h3⟩⟩
 ·by_cases hxo : x ∈ d.2.1
  ·refine ⟨fun ⟨q, hq, hqk, h3⟩ => absurd (hA.out x hxo q hq hqk) h3, fun q => ?_⟩
   rcases q with q | q
   ·exact absurd q hxk
   ·exact absurd hxo q.2
  ·have key : inR d.1 x ↔ inR c x := by
    unfold admitP at e
    split at e
    ·cases e; exact touch_in c k x
    ·split at e
     ·cases e; cases hok
     ·cases hx : outL n (goneP c (fndK c.pages k)) [] with
      | none => rw [hx] at e; cases e
      | some r =>
       rw [hx] at e
       simp only [Option.bind_some] at e
       obtain ⟨c', hy, he⟩ := Option.map_eq_some_iff.1 e
       subst he
       have h1 := (outL_kx n _ [] r hx hxo).1
       have h2 := coolL_keep (keepX x) n _ c' hy
       have h3 := cnt_comes (so := badX x) r.1 (newPg k (fndK c.pages k))
       have h4 : badX x (newPg k (fndK c.pages k)) = false := by
        unfold badX
        rw [show (newPg k (fndK c.pages k)).key = k from rfl, decide_eq_false (fun q => hxk q.symm)]
        rfl
       rw [h4, if_neg (by decide), Nat.add_zero] at h3
       have h5 : cnt (badX x) (goneP c (fndK c.pages k)).pages = cnt (badX x) c.pages := by
        unfold goneP
        rcases fnd_lt c.pages k with hf | ⟨i, p, hf, hp, hpk⟩
        ·rw [hf, if_neg (by omega)]
        ·rw [hf, if_pos (by omega), Int.toNat_natCast]
         have hd := del_in h.ky hp x
         rw [hpk, if_neg hxk] at hd
         exact hd
       exact inR_of (by show cnt (badX x) c'.pages = _; rw [h2, h3, h1, h5])
   exact ⟨fun q => .inr ⟨key.1 q, hxo⟩, fun q => by rcases q with q | q; exact absurd q hxk; exact key.2 q.1⟩
/-- the pages that are resident, by their keys -/
def resK (c : Clk) : List Ky := (c.pages.filter isRes).map Pg.key
theorem resK_len (c : Clk) : (resK c).length = cnt isRes c.pages := by unfold resK cnt; rw [List.length_map, List.countP_eq_length_filter]
theorem resK_nd {c : Clk} (h : (c.pages.map Pg.key).Nodup) : (resK c).Nodup := by
 unfold resK
 exact List.Nodup.sublist ((List.filter_sublist).map _) h
theorem resK_mem {c : Clk} (hK : cnt badK c.pages = 0) (x : Ky) : x ∈ resK c ↔ inR c x := by
 unfold resK inR
 rw [List.mem_map]
 constructor
 ·rintro ⟨p, hp, rfl⟩
  obtain ⟨a, b⟩ := List.mem_filter.1 hp
  exact ⟨p, a, rfl, (res_iff hK a).1 b⟩
 ·rintro ⟨p, hp, hk, h3⟩
  exact ⟨p, List.mem_filter.2 ⟨hp, (res_iff hK hp).2 h3⟩, hk⟩
theorem nodup_len : ∀ {l m : List Ky}, l.Nodup → (∀ x ∈ l, x ∈ m) → l.length ≤ m.length
 | [], m, _, _ => Nat.zero_le _
 | a :: l, m, h, hs => by
  rw [List.nodup_cons] at h
  have ha := hs a (List.mem_cons_self ..)
  have := nodup_len (l := l) (m := m.erase a) h.2 (fun x hx => (List.mem_erase_of_ne (fun e => h.1 (by rw [← e]; exact hx))).2 (hs x (List.mem_cons_of_mem _ hx)))
  rw [List.length_erase_of_mem ha] at this
  have := List.length_pos_of_mem ha
  simp only [List.length_cons]
  omega
theorem nodup_eqlen {l m : List Ky} (h1 : l.Nodup) (h2 : m.Nodup) (h : ∀ x, x ∈ l ↔ x ∈ m) : l.length = m.length :=
 Nat.le_antisymm (nodup_len h1 (fun x hx => (h x).1 hx)) (nodup_len h2 (fun x hx => (h x).2 hx))
/-- the map has just the pages that are resident -/
structure CMap (c : Clk) (kvs : List (Ky × Value)) : Prop where
 b : Bnd c
 nd : (kvs.map (·.1)).Nodup
 m : ∀ x, x ∈ kvs.map (·.1) ↔ inR c x
theorem CMap.len {c : Clk} {kvs : List (Ky × Value)} (h : CMap c kvs) : kvs.length = cnt isRes c.pages := by
 rw [← resK_len, ← List.length_map (f := (·.1))]
 exact nodup_eqlen h.nd (resK_nd h.b.ky) (fun x => by rw [h.m, resK_mem h.b.bk])
def delsQ (kvs : List (Ky × Value)) (out : List Ky) : List (Ky × Value) := out.foldl qdel kvs
theorem qdel_mem {l : List (Ky × Value)} (h : (l.map (·.1)).Nodup) (k x : Ky) : x ∈ (qdel l k).map (·.1) ↔ x ∈ l.map (·.1) ∧ x ≠ k := by
 induction l with
 | nil => simp [qdel]
 | cons p l ih =>
  simp only [List.map_cons, List.nodup_cons] at h
  unfold qdel
  split
  ·rename_i hk
   simp only [List.map_cons, List.mem_cons]
   constructor
   ·intro hx
    exact ⟨.inr hx, fun e => h.1 (by rw [← hk, ← e]; exact hx)⟩
   ·rintro ⟨hx | hx, hne⟩
    ·exact absurd (hx.trans hk.symm) hne
    ·exact hx
  ·rename_i hk
   simp only [List.map_cons, List.mem_cons, ih h.2]
   constructor
   ·rintro (hx | hx)
    ·exact ⟨.inl hx, fun e => hk (e.symm.trans hx)⟩
    ·exact ⟨.inr hx.1, hx.2⟩
   ·rintro ⟨hx | hx, hne⟩
    ·exact .inl hx
    ·exact .inr ⟨hx, hne⟩
theorem dels_nd : ∀ (out : List Ky) (l : List (Ky × Value)), (l.map (·.1)).Nodup → ((delsQ l out).map (·.1)).Nodup
 | [], l, h => h
 | x :: out, l, h => dels_nd out (qdel l x) (qdel_nodup l x h)
theorem dels_mem : ∀ (out : List Ky) (l : List (Ky × Value)) (x : Ky), (l.map (·.1)).Nodup → (x ∈ (delsQ l out).map (·.1) ↔ x ∈ l.map (·.1) ∧ x ∉ out)
 | [], l, x, h => by simp [delsQ]
 | y :: out, l, x, h => by
  show x ∈ (delsQ (qdel l y) out).map (·.1) ↔ _
  rw [dels_mem out (qdel l y) x (qdel_nodup l y h), qdel_mem h]
  simp only [List.mem_cons, not_or, and_assoc]
theorem qset_mem : ∀ (l : List (Ky × Value)) (k x : Ky) (v : Value), x ∈ (qset l k v).map (·.1) ↔ x = k ∨ x ∈ l.map (·.1)
 | [], k, x, v => by simp [qset]
 | p :: l, k, x, v => by
  unfold qset
  split
  ·rename_i hk
   simp only [List.map_cons, List.mem_cons, ← hk]
   constructor
   ·rintro (h | h)
    ·exact .inl h
    ·exact .inr (.inr h)
   ·rintro (h | h | h)
    ·exact .inl h
    ·exact .inl h
    ·exact .inr h
  ·simp only [List.map_cons, List.mem_cons, qset_mem l k x v]
   constructor
   ·rintro (h | h | h)
    ·exact .inr (.inl h)
    ·exact .inl h
    ·exact .inr (.inr h)
   ·rintro (h | h | h)
    ·exact .inr (.inl h)
    ·exact .inl h
    ·exact .inr (.inr h)
theorem CMap.new {m : Int} (h1 : 1 ≤ m) (h2 : m ≤ 8) : CMap ⟨m, 1, [], 0, 0, 0⟩ [] := ⟨Bnd.new m h1 h2, List.nodup_nil, fun x => ⟨fun h => (by cases h), fun ⟨p, hp, _⟩ => (by cases hp)⟩⟩
theorem CMap.touch {c : Clk} {kvs : List (Ky × Value)} (h : CMap c kvs) (k : Ky) : CMap (touchP c k).1 kvs := ⟨h.b.touch k, h.nd, fun x => by rw [h.m, touch_in]⟩
theorem CMap.pin {c : Clk} {kvs : List (Ky × Value)} (h : CMap c kvs) (k : Ky) (n : Int) : CMap (pinP c k n).1 kvs := ⟨h.b.pin k n, h.nd, fun x => by rw [h.m, pin_in]⟩
theorem CMap.drop {c : Clk} {kvs : List (Ky × Value)} (h : CMap c kvs) {k : Ky} {i : Nat} (hf : fndK c.pages k = (i : Int)) (hb : Bnd (dropP c k).1) : CMap (dropP c k).1 (qdel kvs k) :=
 ⟨hb, qdel_nodup kvs k h.nd, fun x => by rw [qdel_mem h.nd, h.m, drop_in h.b hf]⟩
theorem CMap.put {c : Clk} {kvs : List (Ky × Value)} (h : CMap c kvs) {k : Ky} {d : Clk} {out : List Ky} (e : admitP 1000000 c k = some (d, out, true)) (v : Value) : CMap d (qset (delsQ kvs out) k v) :=
 ⟨(h.b.admits (by decide) e).b, qset_nodup _ _ _ (dels_nd out kvs h.nd), fun x => by rw [qset_mem, dels_mem out kvs x h.nd, h.m, admit_in h.b (by decide) e rfl]⟩
end Go.Proofs.Ytdpnpipninggeaa
/- As many frames pinned as there are; one by one they make room. -/
set_option linter.unusedSimpArgs false
set_option linter.unusedVariables false
set_option maxRecDepth 20000
namespace Go.Proofs.Ytdpnpipninggeaa
open Go
def fK (j : Nat) : Ky := ⟨0, 0, (j : Int)⟩
theorem fK_inj {i j : Nat} (h : fK i = fK j) : i = j := by
 have := congrArg Ky.c h
 simp only [fK] at this
 omega
theorem mem_set_ne {l : List Pg} {i : Nat} {q y : Pg} (h : y ∈ l.set i q) : y = q ∨ ∃ j, j ≠ i ∧ l[j]? = some y := by
 obtain ⟨j, hj⟩ := List.mem_iff_getElem?.1 h
 by_cases e : j = i
 ·subst e
  rw [List.getElem?_set] at hj
  simp only [if_true] at hj
  split at hj
  ·exact .inl (Option.some.inj hj).symm
  ·cases hj
 ·rw [List.getElem?_set_ne (fun q => e q.symm)] at hj
  exact .inr ⟨j, e, hj⟩
theorem admit_room2 {n : Nat} {c : Clk} {k : Ky} {d : Clk × List Ky × Bool} (hf : fndK c.pages k = -1) (h1 : (cnt isRes c.pages : Int) < c.most) (hn : 0 < n) (e : admitP n c k = some d) : d.2.1 = [] ∧ d.2.2 = true ∧ cnt isTest d.1.pages ≤ cnt isTest c.pages ∧ cnt isRes d.1.pages = cnt isRes c.pages + 1 := by
 obtain ⟨n, rfl⟩ : ∃ m, n = m + 1 := ⟨n - 1, by omega⟩
 unfold admitP at e
 rw [touch_no hf, if_neg (fun h => by cases h), if_neg (fun h => by omega)] at e
 unfold goneP at e
 rw [hf, if_neg (by omega), outL_s, if_neg (by omega)] at e
 simp only [Option.bind_some] at e
 obtain ⟨c', hy, he⟩ := Option.map_eq_some_iff.1 e
 subst he
 have t1 := coolL_less lessTest _ _ c' hy
 have t2 := coolL_keep keepRes _ _ c' hy
 have t3 := cnt_comes (so := isTest) c (newPg k (-1))
 have t4 := cnt_comes (so := isRes) c (newPg k (-1))
 rw [show isTest (newPg k (-1)) = false from rfl, if_neg (by decide)] at t3
 rw [show isRes (newPg k (-1)) = true from rfl, if_pos rfl] at t4
 exact ⟨rfl, rfl, by show cnt isTest c'.pages ≤ _; omega, by show cnt isRes c'.pages = _; omega⟩
theorem admit_one2 {c : Clk} {k f : Ky} {d : Clk × List Ky × Bool} (h : Bnd c) (hf : fndK c.pages k = -1) (h1 : c.most = (cnt isRes c.pages : Int)) (h2 : cnt isFree c.pages ≠ 0) (ho : One f c) (e : admitP 1000000 c k = some d) : d.2.1 = [f] ∧ d.2.2 = true ∧ cnt isRes d.1.pages = cnt isRes c.pages := by
 unfold admitP at e
 rw [touch_no hf, if_neg (fun h => by cases h), if_neg (fun h => h2 h.2)] at e
 unfold goneP at e
 rw [hf, if_neg (by omega), show (1000000 : Nat) = 999999 + 1 from rfl, outL_s, if_pos (by omega)] at e
 have hlr : cnt isRef c.pages ≤ c.pages.length := List.countP_le_length
 have hw := way_le isCold c.pages c.cold
 have hln := h.len
 obtain ⟨r, e1, hc⟩ := coldL_ex 90000 999999 c h.R (by omega) (by have := h.m1; omega) h.tm h2 (by unfold coldM; split <;> omega) (by omega)
 have hk := coldL_one _ _ _ ho e1
 have hm : r.1.most = c.most := coldL_I (cloMost c.most) 999999 c r rfl e1
 rw [e1] at e
 simp only [Option.bind_some] at e
 rw [show (999999 : Nat) = 999998 + 1 from rfl, outL_s, if_neg (by omega)] at e
 simp only [Option.bind_some] at e
 obtain ⟨c', hy, he⟩ := Option.map_eq_some_iff.1 e
 subst he
 have t2 := coolL_keep keepRes _ _ c' hy
 have t4 := cnt_comes (so := isRes) r.1 (newPg k (-1))
 rw [show isRes (newPg k (-1)) = true from rfl, if_pos rfl] at t4
 exact ⟨by show [] ++ [r.2] = [f]; rw [hk]; rfl, rfl, by show cnt isRes c'.pages = _; omega⟩
/-- where a page that is resident stands -/
theorem in_at' {c : Clk} (h : Bnd c) {k : Ky} (hi : inR c k) : ∃ (i : Nat) (q : Pg), fndK c.pages k = (i : Int) ∧ c.pages[i]? = some q ∧ q.key = k ∧ isRes q = true := by
 obtain ⟨q, hq, hk, h3⟩ := hi
 obtain ⟨i, hi⟩ := List.mem_iff_getElem?.1 hq
 exact ⟨i, q, by rw [← hk]; exact fnd_mem h.ky hi, hi, hk, (res_iff h.bk hq).2 h3⟩
structure Fu1 (m : Int) (i : Nat) (c : Clk) : Prop where
 b : Bnd c
 m : c.most = m
 p : ∀ p ∈ c.pages, p.kind ≠ 3 ∧ p.pins = 1 ∧ ∃ j, j < i ∧ p.key = fK j
 n : cnt isRes c.pages = i
 r : ∀ x, inR c x ↔ ∃ j, j < i ∧ x = fK j
theorem Fu1.put {m : Int} {i : Nat} {c : Clk} (h : Fu1 m i c) (hi : (i : Int) < m) : ∃ d e, admitP 1000000 c (fK i) = some (d, [], true) ∧ pinP d (fK i) 1 = (e, true) ∧ Fu1 m (i + 1) e := by
 obtain ⟨⟨d, out, ok⟩, hd⟩ := admit_ex (fK i) h.b.I
 have hf : fndK c.pages (fK i) = -1 := fnd_no (fun p hp e => by
  obtain ⟨_, _, j, hj, hk⟩ := h.p p hp
  have := fK_inj (hk.symm.trans e)
  omega)
 have hhn := h.n
 have hhm := h.m
 obtain ⟨e1, e2, e3, e4⟩ := admit_room2 hf (by omega) (by decide) hd
 dsimp only at e1 e2 e3 e4
 subst e1 e2
 have hA := h.b.admits (by decide) hd
 have hin := admit_in h.b (by decide) hd rfl
 dsimp only at hin
 have hT : cnt isTest d.pages = 0 := by
  have : cnt isTest c.pages = 0 := cnt_zero (fun p hp => by unfold isTest; exact decide_eq_false (h.p p hp).1)
  omega
 have hall : AllP (fun k v => (k = fK i ∧ v = 0) ∨ (∃ j, j < i ∧ k = fK j ∧ v = 1)) d :=
  AllP.admits (fun p hp => by obtain ⟨_, a, j, hj, hk⟩ := h.p p hp; exact .inr ⟨j, hj, hk, a⟩) (.inl ⟨rfl, rfl⟩) hd
 obtain ⟨at', q, hq1, hq2, hq3, hq4⟩ := in_at' hA.b ((hin (fK i)).2 (.inl rfl))
 dsimp only at hq1 hq2
 have hq0 : q.pins = 0 := by
  rcases hall q (List.mem_of_getElem? hq2) with a | ⟨j, hj, hk, _⟩
  ·exact a.2
  ·have := fK_inj (hk.symm.trans hq3)
   omega
 have hpin : pinP d (fK i) 1 = (setP d at' { q with pins := 1 }, true) := by
  rw [pin_at hq1 hq2, hq4, if_pos rfl, hq0]
  rfl
 have hb2 := hA.b.pin (fK i) 1
 have hr2 := fun x => pin_in d (fK i) x 1
 have hm2 := pin_mostS d (fK i) 1
 rw [hpin] at hb2 hr2 hm2
 refine ⟨d, _, hd, hpin, hb2, by rw [hm2]; exact hA.m.trans hhm, ?_, ?_, ?_⟩
 ·intro y hy
  rcases mem_set_ne hy with e | ⟨j, hj, hjy⟩
  ·subst e
   exact ⟨(res_iff hA.b.bk (List.mem_of_getElem? hq2)).1 hq4, rfl, i, Nat.lt_succ_self i, hq3⟩
  ·refine ⟨?_, ?_⟩
   ·have := allNot hT (List.mem_of_getElem? hjy)
    unfold isTest at this
    simpa using this
   ·rcases hall y (List.mem_of_getElem? hjy) with a | ⟨j2, hj2, hk, hv⟩
    ·exact absurd (key_uniq hA.b.ky hq2 hjy (a.1.trans hq3.symm)) hj
    ·exact ⟨hv, j2, by omega, hk⟩
 ·show cnt isRes (d.pages.set at' { q with pins := 1 }) = _
  rw [cnt_set_eq (so := isRes) (q := { q with pins := 1 }) hq2 rfl, e4, hhn]
 ·intro x
  rw [hr2, hin, h.r]
  constructor
  ·rintro (a | ⟨⟨j, hj, a⟩, _⟩)
   ·exact ⟨i, Nat.lt_succ_self i, a⟩
   ·exact ⟨j, by omega, a⟩
  ·rintro ⟨j, hj, a⟩
   by_cases e : j = i
   ·exact .inl (by rw [a, e])
   ·exact .inr ⟨⟨j, by omega, a⟩, by simp⟩
structure Fu2 (m : Nat) (i : Nat) (c : Clk) : Prop where
 b : Bnd c
 mo : c.most = (m : Int)
 rn : cnt isRes c.pages = m
 pi : ∀ p ∈ c.pages, p.kind = 3 ∨ p.pins = 1
 ky : ∀ p ∈ c.pages, (∃ j, j < m ∧ p.key = fK j) ∨ (∃ j, j < i ∧ p.key = fK (100 + j))
 re : ∀ x, inR c x ↔ (∃ j, i ≤ j ∧ j < m ∧ x = fK j) ∨ (∃ j, j < i ∧ x = fK (100 + j))
theorem Fu1.two {m : Nat} {c : Clk} (h : Fu1 (m : Int) m c) : Fu2 m 0 c := by
 refine ⟨h.b, h.m, h.n, fun p hp => .inr (h.p p hp).2.1, fun p hp => .inl (h.p p hp).2.2, fun x => ?_⟩
 rw [h.r]
 constructor
 ·rintro ⟨j, hj, a⟩; exact .inl ⟨j, Nat.zero_le _, hj, a⟩
 ·rintro (⟨j, _, hj, a⟩ | ⟨j, hj, _⟩)
  ·exact ⟨j, hj, a⟩
  ·omega
theorem Fu2.step {m i : Nat} {c : Clk} (h : Fu2 m i c) (hi : i < m) (hm : m ≤ 8) : admitP 1000000 c (fK (100 + i)) = some (c, [], false) ∧
  ∃ at' q c1 d e, fndK c.pages (fK i) = ((at' : Nat) : Int) ∧ c.pages[at']? = some q ∧ q.pins = 1 ∧ pinP c (fK i) (-1) = (c1, true) ∧ Bnd c1 ∧ admitP 1000000 c1 (fK (100 + i)) = some (d, [fK i], true) ∧ pinP d (fK (100 + i)) 1 = (e, true) ∧ Fu2 m (i + 1) e ∧ (touchP e (fK i)).2 = false := by
 have hhm := h.mo
 have hhn := h.rn
 have hf : fndK c.pages (fK (100 + i)) = -1 := fnd_no (fun p hp e => by
  rcases h.ky p hp with ⟨j, hj, hk⟩ | ⟨j, hj, hk⟩
  ·have := fK_inj (hk.symm.trans e); omega
  ·have := fK_inj (hk.symm.trans e); omega)
 have hfree : cnt isFree c.pages = 0 := cnt_zero (fun p hp => by
  unfold isFree isRes
  rcases h.pi p hp with a | a
  ·rw [a]; rfl
  ·rw [a]; simp)
 refine ⟨admit_full hf (by omega) hfree, ?_⟩
 obtain ⟨at', q, hq1, hq2, hq3, hq4⟩ := in_at' h.b ((h.re (fK i)).2 (.inl ⟨i, Nat.le_refl i, hi, rfl⟩))
 have hk3 := (res_iff h.b.bk (List.mem_of_getElem? hq2)).1 hq4
 have hqp : q.pins = 1 := by
  rcases h.pi q (List.mem_of_getElem? hq2) with a | a
  ·exact absurd a hk3
  ·exact a
 have hpin : pinP c (fK i) (-1) = (setP c at' { q with pins := 0 }, true) := by
  rw [pin_at hq1 hq2, hq4, if_pos rfl, hqp]
  rfl
 have hb1 := h.b.pin (fK i) (-1)
 have hr1 := fun x => pin_in c (fK i) x (-1)
 have hm1 := pin_mostS c (fK i) (-1)
 rw [hpin] at hb1 hr1 hm1
 dsimp only at hb1 hr1 hm1
 have hone : One (fK i) (setP c at' { q with pins := 0 }) := by
  intro y hy
  rcases mem_set_ne hy with e | ⟨j, hj, hjy⟩
  ·subst e; exact .inr (.inr hq3)
  ·rcases h.pi y (List.mem_of_getElem? hjy) with a | a
   ·exact .inl a
   ·exact .inr (.inl (by omega))
 have hkeys1 : ∀ p ∈ (setP c at' { q with pins := 0 }).pages, (∃ j, j < m ∧ p.key = fK j) ∨ (∃ j, j < i ∧ p.key = fK (100 + j)) := by
  intro y hy
  rcases mem_set_ne hy with e | ⟨j, hj, hjy⟩
  ·subst e; exact h.ky q (List.mem_of_getElem? hq2)
  ·exact h.ky y (List.mem_of_getElem? hjy)
 have hpp1 : ∀ p ∈ (setP c at' { q with pins := 0 }).pages, p.kind = 3 ∨ p.pins = 1 ∨ p.key = fK i := by
  intro y hy
  rcases mem_set_ne hy with e | ⟨j, hj, hjy⟩
  ·subst e; exact .inr (.inr hq3)
  ·rcases h.pi y (List.mem_of_getElem? hjy) with a | a
   ·exact .inl a
   ·exact .inr (.inl a)
 obtain ⟨off1, off2⟩ := off_cnt hq2 hq4
 rw [hhn] at off1
 generalize setP c at' { q with pins := 0 } = c1 at hpin hb1 hr1 hm1 hone hkeys1 hpp1 off1 off2
 have hf1 : fndK c1.pages (fK (100 + i)) = -1 := fnd_no (fun p hp e => by
  rcases hkeys1 p hp with ⟨j, hj, hk⟩ | ⟨j, hj, hk⟩
  ·have := fK_inj (hk.symm.trans e); omega
  ·have := fK_inj (hk.symm.trans e); omega)
 obtain ⟨⟨d, out, ok⟩, hd⟩ := admit_ex (fK (100 + i)) hb1.I
 obtain ⟨e1, e2, e3⟩ := admit_one2 hb1 hf1 (by omega) off2 hone hd
 dsimp only at e1 e2 e3
 subst e1 e2
 have hA := hb1.admits (by decide) hd
 have hin := admit_in hb1 (by decide) hd rfl
 dsimp only at hin
 -- what hangs on key and pins
 have hzero : AllP (fun k v => k = fK (100 + i) → v = 0) d :=
  AllP.admits (so := fun k v => k = fK (100 + i) → v = 0) (fun p hp e => absurd e (fnd_none hf1 p hp)) (fun _ => rfl) hd
 have hkeys2 : AllP (fun k _ => (∃ j, j < m ∧ k = fK j) ∨ (∃ j, j < i + 1 ∧ k = fK (100 + j))) d :=
  AllP.admits (fun p hp => by
   rcases hkeys1 p hp with a | ⟨j, hj, a⟩
   ·exact .inl a
   ·exact .inr ⟨j, by omega, a⟩) (.inr ⟨i, Nat.lt_succ_self i, rfl⟩) hd
 have hst : ∀ p ∈ d.pages, p.kind = 3 ∨ p.pins = 1 ∨ p.key = fK (100 + i) := by
  intro p hp
  by_cases h3 : p.kind = 3
  ·exact .inl h3
  ·right
   by_cases hk : p.key = fK (100 + i)
   ·exact .inr hk
   ·left
    -- a page that was there
    have hki : p.key ≠ fK i := fun e => h3 (hA.out (fK i) (by simp) p hp e)
    have hall : AllP (fun k v => v = 1 ∨ k = fK i ∨ k = fK (100 + i) ∨ ¬ inR c1 k) d :=
     AllP.admits (fun p hp => by
      rcases hpp1 p hp with a | a | a
      ·by_cases hir : inR c1 p.key
       ·obtain ⟨ii, hii⟩ := List.mem_iff_getElem?.1 hp
        exact absurd a ((at_uniq hb1 hii rfl).1 hir)
       ·exact .inr (.inr (.inr hir))
      ·exact .inl a
      ·exact .inr (.inl a)) (.inr (.inr (.inl rfl))) hd
    rcases hall p hp with a | a | a | a
    ·exact a
    ·exact absurd a hki
    ·exact absurd a hk
    ·have := (hin p.key).1 ⟨p, hp, rfl, h3⟩
     rcases this with b | b
     ·exact absurd b hk
     ·exact absurd b.1 a
 obtain ⟨at2, q2, hq21, hq22, hq23, hq24⟩ := in_at' hA.b ((hin (fK (100 + i))).2 (.inl rfl))
 dsimp only at hq21 hq22
 have hq20 : q2.pins = 0 := hzero q2 (List.mem_of_getElem? hq22) hq23
 have hpin2 : pinP d (fK (100 + i)) 1 = (setP d at2 { q2 with pins := 1 }, true) := by
  rw [pin_at hq21 hq22, hq24, if_pos rfl, hq20]
  rfl
 have hb2 := hA.b.pin (fK (100 + i)) 1
 have hr2 := fun x => pin_in d (fK (100 + i)) x 1
 have hm2 := pin_mostS d (fK (100 + i)) 1
 rw [hpin2] at hb2 hr2 hm2
 have hres : ∀ x, inR (setP d at2 { q2 with pins := 1 }) x ↔ (∃ j, i + 1 ≤ j ∧ j < m ∧ x = fK j) ∨ (∃ j, j < i + 1 ∧ x = fK (100 + j)) := by
  intro x
  rw [hr2, hin, hr1, h.re]
  simp only [List.mem_singleton]
  constructor
  ·rintro (a | ⟨⟨j, h1, h2, a⟩ | ⟨j, h1, a⟩, hne⟩)
   ·exact .inr ⟨i, Nat.lt_succ_self i, a⟩
   ·by_cases e : j = i
    ·exact absurd (by rw [a, e]) hne
    ·exact .inl ⟨j, by omega, h2, a⟩
   ·exact .inr ⟨j, by omega, a⟩
  ·rintro (⟨j, h1, h2, a⟩ | ⟨j, h1, a⟩)
   ·exact .inr ⟨.inl ⟨j, by omega, h2, a⟩, fun e => by have := fK_inj (a.symm.trans e); omega⟩
   ·by_cases e : j = i
    ·exact .inl (by rw [a, e])
    ·exact .inr ⟨.inr ⟨j, by omega, a⟩, fun e2 => by have := fK_inj (a.symm.trans e2); omega⟩
 refine ⟨at', q, c1, d, _, hq1, hq2, hqp, hpin, hb1, hd, hpin2, ⟨hb2, ?_, ?_, ?_, ?_, hres⟩, ?_⟩
 ·rw [hm2]
  have := hA.m
  dsimp only at this
  omega
 ·show cnt isRes (d.pages.set at2 { q2 with pins := 1 }) = m
  rw [cnt_set_eq (so := isRes) (q := { q2 with pins := 1 }) hq22 rfl, e3, off1]
 ·intro y hy
  rcases mem_set_ne hy with e | ⟨j, hj, hjy⟩
  ·subst e; exact .inr rfl
  ·rcases hst y (List.mem_of_getElem? hjy) with a | a | a
   ·exact .inl a
   ·exact .inr a
   ·exact absurd (key_uniq hA.b.ky hq22 hjy (a.trans hq23.symm)) hj
 ·intro y hy
  rcases mem_set_ne hy with e | ⟨j, hj, hjy⟩
  ·subst e; exact hkeys2 q2 (List.mem_of_getElem? hq22)
  ·exact hkeys2 y (List.mem_of_getElem? hjy)
 ·cases ht : (touchP (setP d at2 { q2 with pins := 1 }) (fK i)).2 with
  | false => rfl
  | true =>
   have := (hres (fK i)).1 ((touch_ok hb2 (fK i)).1 ht)
   rcases this with ⟨j, h1, h2, a⟩ | ⟨j, h1, a⟩
   ·have := fK_inj a; omega
   ·have := fK_inj a; omega
end Go.Proofs.Ytdpnpipninggeaa

/- A ring with one page. -/
set_option linter.unusedSimpArgs false
set_option linter.unusedVariables false
set_option maxRecDepth 20000
namespace Go.Proofs.Ytdpnpipninggeaa
open Go
def ring0 (m : Int) : Clk := ⟨m, 1, [], 0, 0, 0⟩
def ring1 (m : Int) (k : Ky) (p : Int) : Clk := ⟨m, 1, [⟨k, 2, false, true, p⟩], 0, 0, 0⟩
theorem fnd_one (m : Int) (k : Ky) (p : Int) : fndK (ring1 m k p).pages k = ((0 : Nat) : Int) := by
 unfold ring1 fndK idxF
 simp [List.findIdx_cons]
theorem fnd_nil (m : Int) (k : Ky) : fndK (ring0 m).pages k = -1 := rfl
theorem admit_new {m : Int} (h1 : 1 ≤ m) (k : Ky) : admitP 1000000 (ring0 m) k = some (ring1 m k 0, [], true) := by
 unfold admitP
 rw [touch_no (fnd_nil m k), if_neg (fun h => by cases h), if_neg (fun h => by have : m ≤ ((0 : Nat) : Int) := h.1; omega)]
 unfold goneP
 rw [fnd_nil, if_neg (by omega), show (1000000 : Nat) = 999999 + 1 from rfl, outL_s, if_neg (fun h => by have : m ≤ ((0 : Nat) : Int) := h; omega)]
 simp only [Option.bind_some]
 have e : comesP (ring0 m) (newPg k (-1)) = ring1 m k 0 := rfl
 rw [e, coolL_s, if_neg (fun h => by have : m - 1 < ((0 : Nat) : Int) := h; omega)]
 rfl
theorem ring0B {m : Int} (h1 : 1 ≤ m) (h2 : m ≤ 8) : Bnd (ring0 m) := Bnd.new m h1 h2
theorem ring1B {m : Int} (h1 : 1 ≤ m) (h2 : m ≤ 8) (k : Ky) : Bnd (ring1 m k 0) := ((ring0B h1 h2).admits (by decide) (admit_new h1 k)).b
theorem newP_ring {m : Int} (h1 : 1 ≤ m) (h2 : m ≤ 8) : newP m = ring0 m := newP_S h1 h2
theorem qset_one (k : Ky) (v : Value) : qset (delsQ [] []) k v = [(k, v)] := rfl
end Go.Proofs.Ytdpnpipninggeaa
