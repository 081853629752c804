/- slices.Insert of one element. -/
import Derived.Test.YtdpnpipninggeaaStc
import Derived.Test.YtdpnpipninggeaaNum
import Derived.Test.YtdpnpipninggeaaTab
import Derived.Test.YtdpnpipninggeaaRowsG
import Derived.Test.YtdpnpipninggeaaDel
set_option linter.unusedSimpArgs false
set_option linter.unusedVariables false
set_option maxRecDepth 20000
set_option maxHeartbeats 4000000
namespace Go.Proofs.Ytdpnpipninggeaa
open Go
attribute [local irreducible] W WL Fn Buf ROs SL eptr box Rd Src bndOK WD RB Reads In Rw over
theorem ins_list {row0 cs e : List Value} {a n N : Nat} (hN : row0.length = N) (ht : row0.take a = cs.take a) (hc : cs.length = n) (ha : a ≤ n) (hr : n + e.length ≤ N) :
    ((over (over row0 a e) (a + e.length) (cs.drop a)).drop 0).take (n + e.length) = cs.take a ++ e ++ cs.drop a := by
  have hdl : (cs.drop a).length = n - a := by simp [hc]
  have h1 : a + e.length ≤ row0.length := by omega
  have hol := over_len h1
  have hta : (cs.take a).length = a := by simp; omega
  have hg : ∀ p, p < a → row0[p]? = cs[p]? := by
    intro p hp
    have := congrArg (fun l => l[p]?) ht
    simp only [List.getElem?_take, if_pos hp] at this
    exact this
  apply List.ext_getElem?
  intro p
  rw [List.drop_zero, List.getElem?_take, List.append_assoc]
  by_cases hp : p < n + e.length
  · rw [if_pos hp, over_get (by rw [hol, hdl]; omega)]
    by_cases h2 : p < a + e.length
    · rw [if_pos h2, over_get h1]
      by_cases h3 : p < a
      · rw [if_pos h3, List.getElem?_append_left (by omega), List.getElem?_take, if_pos h3, hg p h3]
      · rw [if_neg h3, if_pos h2, List.getElem?_append_right (by omega), hta, List.getElem?_append_left (by omega)]
    · rw [if_neg h2, if_pos (by rw [hdl]; omega), List.getElem?_append_right (by omega), hta, List.getElem?_append_right (by omega)]
      congr 1
      omega
  · rw [if_neg hp, List.getElem?_eq_none (by simp only [List.length_append, hta, hdl]; omega)]
theorem ins_list2 {buf cs e : List Value} {off a n : Nat} (hb : (buf.drop off).take n = cs) (hc : cs.length = n) (ha : a ≤ n) (hr : off + n + e.length ≤ buf.length) :
    ((over (over buf (off + (a + e.length)) (cs.drop a)) (off + a) e).drop off).take (n + e.length) = cs.take a ++ e ++ cs.drop a := by
  have hdl : (cs.drop a).length = n - a := by simp [hc]
  have h1 : off + (a + e.length) + (cs.drop a).length ≤ buf.length := by omega
  have hol := over_len h1
  have hta : (cs.take a).length = a := by simp; omega
  have hg : ∀ p, p < n → buf[off + p]? = cs[p]? := by
    intro p hp
    rw [← hb, List.getElem?_take, if_pos hp, List.getElem?_drop]
  apply List.ext_getElem?
  intro p
  rw [List.getElem?_take, List.append_assoc]
  by_cases hp : p < n + e.length
  · rw [if_pos hp, List.getElem?_drop, over_get (by rw [hol]; omega)]
    by_cases h3 : p < a
    · rw [if_pos (by omega), over_get h1, if_pos (by omega), List.getElem?_append_left (by omega), List.getElem?_take, if_pos h3, hg p (by omega)]
    · rw [if_neg (by omega)]
      by_cases h2 : p < a + e.length
      · rw [if_pos (by omega), List.getElem?_append_right (by omega), hta, List.getElem?_append_left (by omega)]
        congr 1
        omega
      · rw [if_neg (by omega), over_get h1, if_neg (by omega), if_pos (by rw [hdl]; omega), List.getElem?_append_right (by omega), hta, List.getElem?_append_right (by omega)]
        congr 1
        omega
  · rw [if_neg hp, List.getElem?_eq_none (by simp only [List.length_append, hta, hdl]; omega)]
theorem ins_len {cs e : List Value} {n k s : Nat} (hl : cs.length = n * s) (he : e.length = s) : (cs.take k ++ e ++ cs.drop k).length = (n + 1) * s := by
  simp only [List.length_append, List.length_take, List.length_drop, hl, he, Nat.add_mul, Nat.one_mul]
  omega
end Go.Proofs.Ytdpnpipninggeaa
