/- The law's bytes of a header and what is behind it, by contract. Conditions: a header that may be, options of at most 40 bytes, at most 300 bytes behind it. -/
import Derived.Test.YtdmgbngdpjcliaaFourHead
import Derived.Test.YtdmgbngdpjcliaaRegionF
import Derived.Test.YtdmgbngdpjcliaaSet
import Derived.Test.YtdmgbngdpjcliaaRef04
import Derived.Test.YtdmgbngdpjcliaaBits
namespace Go.Proofs.Ytdmgbngdpjcliaa
open Go.RowKit Go.ChangeShapes Go.WideShapes Go.ChangeAt Go.Deep
namespace Four
/-- A header's bytes, the check still 0. -/
def hdB0 (tos id fl ttl proto slo dlo : Nat) (os : List UInt8) (pl : Nat) : List UInt8 :=
  (((((([UInt8.ofNat (64 + (20 + os.length) / 4), UInt8.ofNat tos] ++ beB (20 + os.length + pl) 2) ++ beB id 2) ++ beB fl 2) ++ [UInt8.ofNat ttl, UInt8.ofNat proto, 0, 0]) ++ beB slo 4) ++ beB dlo 4) ++ os
theorem hdB0_length (tos id fl ttl proto slo dlo : Nat) (os : List UInt8) (pl : Nat) : (hdB0 tos id fl ttl proto slo dlo os pl).length = 20 + os.length := by
  simp [hdB0, beB_length]; omega
/-- .. with its check. -/
def hdB (tos id fl ttl proto slo dlo : Nat) (os : List UInt8) (pl : Nat) : List UInt8 :=
  setB (hdB0 tos id fl ttl proto slo dlo os pl) 10 (beB (65535 - Sum.ones (Sum.tot false (hdB0 tos id fl ttl proto slo dlo os pl))) 2)
theorem ofNat_mod (x : Nat) : UInt8.ofNat (x % 256) = UInt8.ofNat x := by
  apply UInt8.toNat_inj.1
  simp
theorem beB_four (N : Nat) : beB N 4 = beB (N / 65536) 2 ++ beB (N % 65536) 2 := by
  simp only [beB, List.cons_append, List.nil_append]
  have h1 : UInt8.ofNat (N % 65536 / 256 ^ 1) = UInt8.ofNat (N / 256 ^ 1) := by
    rw [← ofNat_mod (N % 65536 / 256 ^ 1), ← ofNat_mod (N / 256 ^ 1)]; congr 1; omega
  have h2 : UInt8.ofNat (N % 65536 / 256 ^ 0) = UInt8.ofNat (N / 256 ^ 0) := by
    rw [← ofNat_mod (N % 65536 / 256 ^ 0), ← ofNat_mod (N / 256 ^ 0)]; congr 1; omega
  rw [h1, h2]
  have h3 : N / 65536 / 256 ^ 1 = N / 256 ^ 3 := by omega
  have h4 : N / 65536 / 256 ^ 0 = N / 256 ^ 2 := by omega
  rw [h3, h4]
theorem hdB_set (tos id fl ttl proto slo dlo : Nat) (os : List UInt8) (pl C : Nat) (hC : 65535 - Sum.ones (Sum.tot false (hdB0 tos id fl ttl proto slo dlo os pl)) = C) : hdB tos id fl ttl proto slo dlo os pl = ((hdB0 tos id fl ttl proto slo dlo os pl).set 10 (UInt8.ofNat (C / 256))).set 11 (UInt8.ofNat C) := by
  unfold hdB
  rw [hC]
  simp [setB, hdB0, beB]
def flI (df mf : Bool) (frag : Nat) : Int := (frag : Int) + (if df then 16384 else 0) + (if mf then 8192 else 0)
end Four
end Go.Proofs.Ytdmgbngdpjcliaa
